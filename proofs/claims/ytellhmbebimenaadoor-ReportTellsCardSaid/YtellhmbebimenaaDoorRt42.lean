/- Contracts of package wire's Reader: Bytes of whatever number, Number, Int, Flag, Blob, Text, Count. Contracts of package wire's Reader: Number of any size, Int, Flag, Blob, Text, Count. Plain facts: which texts are numbers, above a bound or not; no program in sight. -/
import Derived.Test.YtellhmbebimenaaDoorRt41
import Derived.Laws.BitsAllLaws
import Derived.Test.YtellhmbebimenaaDoorRt3
import GoSem.Op.String

section
set_option linter.unusedVariables false
set_option linter.unusedSimpArgs false
namespace Go.Proofs.YtellhmbebimenaaDoor
open Go.RowKit

theorem RStep.ofDrewN {w w' : World} {base br n : Nat} {st : Option (List UInt8)} (h : RStep (w.drewN n) w' base br st) (hb : base ≤ w.heap.size) : RStep w w' base br st :=
  ⟨h.1, ((below_drewN w n).mono hb).trans h.2.1, (Kept.of_below (below_drewN w n)).trans h.2.2⟩
theorem RStep.trans {w w' w'' : World} {base br : Nat} {st st' : Option (List UInt8)} (h : RStep w w' base br st) (h' : RStep w' w'' base br st') : RStep w w'' base br st' :=
  ⟨h'.1, h.2.1.trans h'.2.1, h.2.2.trans h'.2.2⟩
/-- what Bytes tells -/
def rBy (st : Option (List UInt8)) (n : Int) : List UInt8 := (rTake st n).getD []
theorem rBy_none (n : Int) : rBy none n = [] := rfl
theorem rTake_bad {st : Option (List UInt8)} {n : Int} (h : ∀ l, st = some l → ¬ (0 ≤ n ∧ n ≤ l.length)) : rTake st n = none ∧ rRest st n = none := by
  cases st with
  | none => exact ⟨rfl, rfl⟩
  | some l => exact ⟨if_neg (h l rfl), if_neg (h l rfl)⟩
theorem rTake_fit {l : List UInt8} {n : Nat} (h : n ≤ l.length) : rTake (some l) (n : Int) = some (l.take n) ∧ rRest (some l) (n : Int) = some (l.drop n) := by
  constructor
  · show (if 0 ≤ (n : Int) ∧ (n : Int) ≤ l.length then some (l.take (n : Int).toNat) else none) = _
    rw [if_pos ⟨by omega, by omega⟩, Int.toNat_natCast]
  · show (if 0 ≤ (n : Int) ∧ (n : Int) ≤ l.length then some (l.drop (n : Int).toNat) else none) = _
    rw [if_pos ⟨by omega, by omega⟩, Int.toNat_natCast]

set_option maxRecDepth 4000 in
set_option maxHeartbeats 1000000 in
theorem rbytes_bad (base br : Nat) (st : Option (List UInt8)) (n : Int) (hn : -9223372036854775808 ≤ n ∧ n ≤ 9223372036854775807) (hbad : ∀ l, st = some l → ¬ (0 ≤ n ∧ n ≤ l.length)) (w : World) (h : IsR w base br st) :
    Calls Tryd.prog 108 #[.pointer (some ⟨br, 0, none⟩), .int .i64 n] w fun e w' => e = .returned (.slice none 0 0) ∧ RStep w w' base br none := by
  have HWE := Lib.hid (rwell_any base br _ w h)
  have HLF := Lib.hid (rleft_any base br _ w h)
  have hbs : base ≤ w.heap.size := by have := h.lt; omega
  have HFL := Lib.hid (rfail_any base br st w h)
  have HFN := Lib.hid (fun n => rfail_any base br st (w.drewN n) (h.drewN n))
  cases st with
  | none =>
    rw [show (none : Option (List UInt8)).isSome = false from rfl] at HWE
    go_enter Tryd.func108, Tryd.ntmps108
    go_wp2_with fail
    refine HWE.out.mono ?_
    rintro e w1 ⟨rfl, rfl⟩
    go_wp2_with fail
    refine HFL.out.mono ?_
    rintro e w1 ⟨rfl, hr⟩
    have HR := Lib.hid hr; clear hr
    go_wp2
    go_ret
    exact ⟨rfl, HR.out⟩
  | some l =>
    rw [show (some l : Option (List UInt8)).isSome = true from rfl] at HWE
    rw [show rLen (some l) = l.length from rfl] at HLF
    have hb := hbad l rfl
    clear hbad
    generalize l.length = m at *
    by_cases hn0 : n < 0
    · go_enter Tryd.func108, Tryd.ntmps108
      go_wp2_with fail
      refine HWE.out.mono ?_
      rintro e w1 ⟨rfl, rfl⟩
      go_wp2_with fail
      refine HFL.out.mono ?_
      rintro e w1 ⟨rfl, hr⟩
      have HR := Lib.hid hr; clear hr
      go_wp2
      go_ret
      exact ⟨rfl, HR.out⟩
    · have hm : (m : Int) < n := by omega
      go_enter Tryd.func108, Tryd.ntmps108
      go_wp2_with fail
      refine HWE.out.mono ?_
      rintro e w1 ⟨rfl, rfl⟩
      go_wp2_with fail
      refine HLF.out.mono ?_
      rintro e w1 ⟨rfl, nd, rfl⟩
      go_wp2_with fail
      refine (HFN.out nd).mono ?_
      rintro e w2 ⟨rfl, hr⟩
      have HR := Lib.hid (hr.ofDrewN hbs); clear hr
      go_wp2
      go_ret
      exact ⟨rfl, HR.out⟩

theorem rbytes_any (base br : Nat) (st : Option (List UInt8)) (n : Int) (hn : -9223372036854775808 ≤ n ∧ n ≤ 9223372036854775807) (w : World) (h : IsR w base br st) :
    Calls Tryd.prog 108 #[.pointer (some ⟨br, 0, none⟩), .int .i64 n] w fun e w' => ∃ v, e = .returned v ∧ w'.ownsRow w.heap.size 5 1 v (rBy st n).length (bytesV (rBy st n)) ∧ RStep w w' base br (rRest st n) := by
  by_cases hf : ∃ l, st = some l ∧ 0 ≤ n ∧ n ≤ l.length
  · obtain ⟨l, rfl, h0, h1⟩ := hf
    obtain ⟨k, rfl⟩ := Int.eq_ofNat_of_zero_le h0
    have hk : k ≤ l.length := by omega
    refine (rbytes_fit base br l k hk w h).mono ?_
    rintro e w' ⟨v, rfl, hown, hr, -⟩
    refine ⟨v, rfl, ?_, by rw [(rTake_fit hk).2]; exact hr⟩
    have : rBy (some l) (k : Int) = l.take k := by unfold rBy; rw [(rTake_fit hk).1]; rfl
    rw [this, List.length_take, Nat.min_eq_left hk]; exact hown
  · have hb : ∀ l, st = some l → ¬ (0 ≤ n ∧ n ≤ l.length) := fun l e hh => hf ⟨l, e, hh⟩
    refine (rbytes_bad base br st n hn hb w h).mono ?_
    rintro e w' ⟨rfl, hr⟩
    refine ⟨_, rfl, ?_, by rw [(rTake_bad hb).2]; exact hr⟩
    have : rBy st n = [] := by unfold rBy; rw [(rTake_bad hb).1]; rfl
    rw [this]; exact World.ownsRow_nil _ _ _ _

def beVal (l : List UInt8) : Nat := l.foldl (fun n b => n * 256 + b.toNat) 0
def rSize (size : Int) : Bool := size == 1 || size == 2 || size == 4 || size == 8
def rNumV (st : Option (List UInt8)) (size : Int) : Nat := if rSize size then beVal (rBy st size) else 0
def rNumS (st : Option (List UInt8)) (size : Int) : Option (List UInt8) := if rSize size then rRest st size else none
theorem beVal_snoc (l : List UInt8) (b : UInt8) : beVal (l ++ [b]) = beVal l * 256 + b.toNat := by unfold beVal; rw [List.foldl_append]; rfl
theorem beVal_lt (n : Nat) : ∀ l : List UInt8, l.length = n → beVal l < 256 ^ n := by
  induction n with
  | zero => intro l h; rw [List.eq_nil_of_length_eq_zero h]; decide
  | succ n ih =>
    intro l h
    have hne : l ≠ [] := fun e => by rw [e] at h; simp at h
    have h1 := ih l.dropLast (by rw [List.length_dropLast, h]; rfl)
    have h2 := (l.getLast hne).toNat_lt
    rw [← List.dropLast_concat_getLast hne, beVal_snoc, Nat.pow_succ]
    omega
theorem beVal_step {x : List UInt8} {i : Nat} {b : UInt8} (h : x[i]? = some b) (hi : i < 8) : beVal (x.take i) < 72057594037927936 ∧ beVal (x.take (i + 1)) = beVal (x.take i) * 256 + b.toNat := by
  have hl := (List.getElem?_eq_some_iff.1 h).1
  constructor
  · have h1 := beVal_lt i (x.take i) (by rw [List.length_take]; omega)
    have h2 : 256 ^ i ≤ 256 ^ 7 := Nat.pow_le_pow_right (by decide) (by omega)
    omega
  · rw [List.take_add_one, h]
    exact beVal_snoc _ _
theorem or_step (V b : Nat) (hV : V < 72057594037927936) (hb : b < 2 ^ 8) : bits .or .u64 ((V : Int) * 256) (b : Int) = ((V * 256 + b : Nat) : Int) := by
  have e : ((V : Int) * 256) = ((V * 256 : Nat) : Int) := by omega
  rw [e, u64_or_nat (V * 256) b (by omega) (by omega)]
  congr 1
  rw [show V * 256 = V <<< 8 from by rw [Nat.shiftLeft_eq], ← Nat.shiftLeft_add_eq_or_of_lt hb]
theorem rBy_le (st : Option (List UInt8)) (k : Nat) : (rBy st (k : Int)).length ≤ k := by
  unfold rBy rTake
  cases st with
  | none => exact Nat.zero_le _
  | some l => dsimp only; split <;> simp; omega

set_option maxRecDepth 4000 in
set_option maxHeartbeats 1000000 in
theorem rnumber_bad (base br : Nat) (st : Option (List UInt8)) (size : Int) (hs : rSize size = false) (w : World) (h : IsR w base br st) :
    Calls Tryd.prog 54 #[.pointer (some ⟨br, 0, none⟩), .int .i64 size] w fun e w' => e = .returned (.int .u64 0) ∧ RStep w w' base br none := by
  unfold rSize at hs
  simp only [Bool.or_eq_false_iff, beq_eq_false_iff_ne] at hs
  obtain ⟨⟨⟨s1, s2⟩, s4⟩, s8⟩ := hs
  have HFL := Lib.hid (rfail_any base br st w h)
  go_enter Tryd.func54, Tryd.ntmps54
  go_wp2_with fail
  refine HFL.out.mono ?_
  rintro e w1 ⟨rfl, hr⟩
  have HR := Lib.hid hr; clear hr
  go_wp2
  go_ret
  exact ⟨rfl, HR.out⟩

set_option maxRecDepth 4000 in
set_option maxHeartbeats 1000000 in
theorem rnumber_fit (base br : Nat) (st : Option (List UInt8)) (k : Nat) (hk : k = 1 ∨ k = 2 ∨ k = 4 ∨ k = 8) (w : World) (h : IsR w base br st) :
    Calls Tryd.prog 54 #[.pointer (some ⟨br, 0, none⟩), .int .i64 (k : Int)] w fun e w' => e = .returned (.int .u64 (beVal (rBy st (k : Int)) : Int)) ∧ RStep w w' base br (rRest st (k : Int)) := by
  have HBY := Lib.hid (rbytes_any base br st (k : Int) (by omega) w h)
  have hle := rBy_le st k
  generalize rBy st (k : Int) = x at *
  have HLX := Lib.hid (rfl : x.length = x.length)
  generalize hm : x.length = m at *
  have HM := Lib.hid hm; clear hm HLX
  rcases hk with rfl | rfl | rfl | rfl
  all_goals
    go_enter Tryd.func54, Tryd.ntmps54
    go_wp2_with fail
    refine HBY.out.mono ?_
    rintro e w1 ⟨v, rfl, hown, hr⟩
    obtain ⟨q, c, rfl⟩ := own_form hown
    have HO := Lib.hid hown
    have HR := Lib.hid hr
    clear hown hr
    go_wp2_with fail
    go_loopw [4, 17] (fun a n wr => wr = w1 ∧ ∃ i : Nat, i ≤ m ∧ n = .int .i64 (i : Int) ∧ a = .int .u64 (beVal (x.take i) : Int)) (fun _ n _ => m - (intOf n).toNat)
    case atStart => exact ⟨rfl, 0, Nat.zero_le _, rfl, rfl⟩
    case round =>
      obtain ⟨rfl, i, hi, rfl, rfl⟩ := hrel
      by_cases him : i < m
      · obtain ⟨b, hb⟩ : ∃ b, x[i]? = some b := ⟨_, List.getElem?_eq_getElem (by have := HM.out; omega)⟩
        obtain ⟨g, rfl⟩ : ∃ g, q = some ⟨g, 0, none⟩ := by
          rcases HO.out.2 with ⟨h, h0⟩ | ⟨g, c, cur, h, _⟩
          · omega
          · injection h with h; exact ⟨g, h⟩
        have hcell : wr.cell? ⟨g, i, none⟩ = some (.int .u8 (b.toNat : Int)) := by rw [HO.out.cellAt i (by omega), bytesV_at, hb]; rfl
        obtain ⟨t1, t2⟩ := beVal_step hb (by omega)
        have t3 := b.toNat_lt
        have HT := Lib.hid t2
        generalize beVal (x.take i) = V at *
        clear hb t2
        generalize b.toNat = bb at *
        go_wp2
        go_roundw
        case rel => exact ⟨trivial, i + 1, by omega, by go_num, by rw [or_step V bb t1 t3, HT.out]⟩
        case measure => simp [intOf]; omega
      · obtain rfl : i = m := by omega
        have HTK : Hid (x.take i = x) := Lib.hid (List.take_of_length_le (by have := HM.out; omega))
        rw [HTK.out]
        go_wp2
        go_ret
        exact ⟨rfl, HR.out⟩
end Go.Proofs.YtellhmbebimenaaDoor
end

section
set_option linter.unusedVariables false
set_option linter.unusedSimpArgs false
namespace Go.Proofs.YtellhmbebimenaaDoor
open Go.RowKit

theorem own_mono {w : World} {base base' : Nat} {e : TypeId} {n : Nat} {v : Value} {xs : List Value} (h : w.ownsRow base e 1 v n xs) (hb : base' ≤ base) : w.ownsRow base' e 1 v n xs := by
  obtain ⟨hl, hor⟩ := h
  refine ⟨hl, ?_⟩
  rcases hor with h | ⟨g', cap', cur, e, hg, h4⟩
  · exact .inl h
  · exact .inr ⟨g', cap', cur, e, Nat.le_trans hb hg, h4⟩
theorem rnumber_any (base br : Nat) (st : Option (List UInt8)) (size : Int) (w : World) (h : IsR w base br st) :
    Calls Tryd.prog 54 #[.pointer (some ⟨br, 0, none⟩), .int .i64 size] w fun e w' => e = .returned (.int .u64 (rNumV st size : Int)) ∧ RStep w w' base br (rNumS st size) := by
  by_cases hs : rSize size = true
  · have h2 : ∃ k : Nat, (k = 1 ∨ k = 2 ∨ k = 4 ∨ k = 8) ∧ size = (k : Int) := by
      unfold rSize at hs
      simp only [Bool.or_eq_true, beq_iff_eq] at hs
      exact ⟨size.toNat, by omega, by omega⟩
    obtain ⟨k, hk, rfl⟩ := h2
    refine (rnumber_fit base br st k hk w h).mono ?_
    rintro e w' ⟨rfl, hr⟩
    unfold rNumV rNumS
    rw [if_pos hs, if_pos hs]
    exact ⟨rfl, hr⟩
  · refine (rnumber_bad base br st size (by simpa using hs) w h).mono ?_
    rintro e w' ⟨rfl, hr⟩
    unfold rNumV rNumS
    rw [if_neg hs, if_neg hs]
    exact ⟨rfl, hr⟩
theorem rNumV_lt (st : Option (List UInt8)) (k : Nat) : rNumV st (k : Int) < 256 ^ k := by
  unfold rNumV
  split
  · have h1 := beVal_lt _ (rBy st (k : Int)) rfl
    exact Nat.lt_of_lt_of_le h1 (Nat.pow_le_pow_right (by decide) (rBy_le st k))
  · exact Nat.pow_pos (by decide)

set_option maxRecDepth 4000 in
set_option maxHeartbeats 1000000 in
theorem rtake_any (base br : Nat) (st : Option (List UInt8)) (size : Int) (w : World) (h : IsR w base br st) :
    Calls Tryd.prog 124 #[.func (.func 54) #[.pointer (some ⟨br, 0, none⟩)] #[], .int .i64 size] w fun e w' => e = .returned (.int .u64 (rNumV st size : Int)) ∧ RStep w w' base br (rNumS st size) := by
  have HNU := Lib.hid (rnumber_any base br st size w h)
  generalize rNumV st size = V at *
  go_enter Tryd.func124, Tryd.ntmps124
  go_wp2_with fail
  refine HNU.out.mono ?_
  rintro e w1 ⟨rfl, hr⟩
  have HR := Lib.hid hr; clear hr
  go_wp2
  go_ret
  exact ⟨rfl, HR.out⟩

set_option maxRecDepth 4000 in
set_option maxHeartbeats 1000000 in
theorem rint_any (base br : Nat) (st : Option (List UInt8)) (w : World) (h : IsR w base br st) :
    Calls Tryd.prog 77 #[.pointer (some ⟨br, 0, none⟩)] w fun e w' => e = .returned (.int .i64 (wrap64 (rNumV st 8 : Int))) ∧ RStep w w' base br (rNumS st 8) := by
  have HNU := Lib.hid (rtake_any base br st 8 w h)
  have hlt := rNumV_lt st 8
  change rNumV st 8 < 18446744073709551616 at hlt
  generalize rNumV st 8 = V at *
  go_enter Tryd.func77, Tryd.ntmps77
  go_wp2_with fail
  refine HNU.out.mono ?_
  rintro e w1 ⟨rfl, hr⟩
  have HR := Lib.hid hr; clear hr
  go_wp2
  go_ret
  exact ⟨rfl, HR.out⟩

/-- what Blob tells, and leaves -/
def rBlobV (st : Option (List UInt8)) : List UInt8 := if rNumV st 4 > 16777216 then [] else rBy (rNumS st 4) (rNumV st 4 : Nat)
def rBlobS (st : Option (List UInt8)) : Option (List UInt8) := if rNumV st 4 > 16777216 then none else rRest (rNumS st 4) (rNumV st 4 : Nat)

end Go.Proofs.YtellhmbebimenaaDoor
end

section
namespace Go.Proofs.YtellhmbebimenaaDoor.Dec

def mayDec (l : List UInt8) : Bool := l.all isDig && (decide (l = [48]) || (decide (l ≠ []) && decide (l.getD 0 0 ≠ 48)))
/-- an error's number -/
def decE (l : List UInt8) (most : Nat) : Nat := if mayDec l = true then (if most < val l then 5 else 0) else 4
def decN (l : List UInt8) (most : Nat) : Nat := if decE l most = 0 then val l else 0

theorem less_val {a b : List UInt8} (ha : a.all isDig = true) (hb : b.all isDig = true) (h : a.length = b.length) : Op.bytesLess a b = decide (val a < val b) := by
  induction a generalizing b with
  | nil =>
    obtain rfl : b = [] := List.length_eq_zero_iff.1 h.symm
    rfl
  | cons x a ih =>
    cases b with
    | nil => simp at h
    | cons y b =>
      simp only [List.all_cons, Bool.and_eq_true] at ha hb
      have hl : a.length = b.length := by simpa using h
      have h1 := ih ha.2 hb.2 hl
      have e1 : val (x :: a) = dval x * 10 ^ a.length + val a := by
        show valF 0 (x :: a) = _
        rw [valF_cons, valF_lin]; simp
      have e2 : val (y :: b) = dval y * 10 ^ b.length + val b := by
        show valF 0 (y :: b) = _
        rw [valF_cons, valF_lin]; simp
      have v1 := val_lt a ha.2
      have v2 := val_lt b hb.2
      rw [hl] at v1 e1
      have d1 := isDig_iff.1 ha.1
      have d2 := isDig_iff.1 hb.1
      have ex : dval x = x.toNat - 48 := rfl
      have ey : dval y = y.toNat - 48 := rfl
      rw [e1, e2]
      show (decide (x < y) || (x == y && Op.bytesLess a b)) = _
      rw [h1]
      generalize 10 ^ b.length = p at *
      rcases Nat.lt_trichotomy x.toNat y.toNat with hlt | heq | hgt
      · have : x < y := UInt8.lt_iff_toNat_lt.2 hlt
        have hm : (dval x + 1) * p ≤ dval y * p := Nat.mul_le_mul_right p (by omega)
        rw [Nat.add_mul] at hm
        have hv : dval x * p + val a < dval y * p + val b := by omega
        simp [this, hv]
      · have : x = y := UInt8.toNat_inj.1 heq
        subst this
        have hx : ¬ x < x := by rw [UInt8.lt_iff_toNat_lt]; omega
        simp [hx]
      · have : ¬ x < y := by rw [UInt8.lt_iff_toNat_lt]; omega
        have hne : ¬ x = y := fun e => by rw [e] at hgt; omega
        have hm : (dval y + 1) * p ≤ dval x * p := Nat.mul_le_mul_right p (by omega)
        rw [Nat.add_mul] at hm
        have hv : ¬ dval x * p + val a < dval y * p + val b := by omega
        simp [this, hne, hv]
theorem val_inj {a b : List UInt8} (ha : a.all isDig = true) (hb : b.all isDig = true) (h : a.length = b.length) (hv : val a = val b) : a = b := by
  rw [← val_text a ha, ← val_text b hb, h, hv]
theorem mayDec_all {l : List UInt8} (h : mayDec l = true) : l.all isDig = true := by unfold mayDec at h; rw [Bool.and_eq_true] at h; exact h.1
theorem mayDec_lead {l : List UInt8} (h : mayDec l = true) (h1 : 1 < l.length) : 10 ^ (l.length - 1) ≤ val l := by
  have ha := mayDec_all h
  unfold mayDec at h
  simp only [Bool.and_eq_true, Bool.or_eq_true, decide_eq_true_eq] at h
  cases l with
  | nil => simp at h1
  | cons x a =>
    have h2 : x ≠ 48 := by
      rcases h.2 with h | h
      · rw [h] at h1; simp at h1
      · simpa using h.2
    simp only [List.all_cons, Bool.and_eq_true] at ha
    have d := isDig_iff.1 ha.1
    have hx : x.toNat ≠ 48 := fun e => h2 (UInt8.toNat_inj.1 e)
    have e1 : val (x :: a) = dval x * 10 ^ a.length + val a := by
      show valF 0 (x :: a) = _
      rw [valF_cons, valF_lin]; simp
    rw [e1, List.length_cons, Nat.add_sub_cancel]
    have : 1 * 10 ^ a.length ≤ dval x * 10 ^ a.length := Nat.mul_le_mul_right _ (by unfold dval; omega)
    omega
theorem mayDec_ne {l : List UInt8} (h : mayDec l = true) : l ≠ [] := by
  intro e; subst e; simp [mayDec] at h
theorem above_iff {l : List UInt8} (h : mayDec l = true) (most : Nat) :
    (decide ((digits most).length < l.length) || (decide (l.length = (digits most).length) && !(Op.bytesLess l (digits most) || l == digits most))) = decide (most < val l) := by
  have ht := digits_all most
  have hv := digits_val most
  have hl := mayDec_all h
  have hn := mayDec_ne h
  have hpos : 0 < l.length := by rcases l with _ | ⟨x, l⟩; exact absurd rfl hn; simp
  have htp : 0 < (digits most).length := by
    have := digits_ne most
    rcases hd : digits most with _ | ⟨x, r⟩
    · exact absurd hd this
    · simp
  rcases Nat.lt_trichotomy (digits most).length l.length with h1 | h1 | h1
  · have g1 := val_lt _ ht
    rw [hv] at g1
    have g2 := mayDec_lead h (by omega)
    have g3 := Nat.pow_le_pow_right (n := 10) (by decide) (show (digits most).length ≤ l.length - 1 by omega)
    have : most < val l := by omega
    simp [h1, this]
  · have h2 := less_val hl ht h1.symm
    rw [hv] at h2
    rw [h2]
    have h3 : ¬ (digits most).length < l.length := by omega
    by_cases he : l = digits most
    · subst he
      simp [hv]
    · have hne : val l ≠ most := fun e => he (val_inj hl ht h1.symm (by rw [e, hv]))
      have : (l == digits most) = false := by simpa using he
      rw [this, Bool.eq_iff_iff]
      simp [h1]
      omega
  · have g1 := val_lt _ hl
    have g2 : 10 ^ l.length ≤ most := by
      rcases Nat.lt_or_ge most (10 ^ l.length) with h3 | h3
      · have := digits_length_le most (l.length - 1) (by rw [show l.length - 1 + 1 = l.length from by omega]; exact h3)
        omega
      · exact h3
    have h3 : ¬ (digits most).length < l.length := by omega
    have h4 : ¬ l.length = (digits most).length := by omega
    have h5 : ¬ most < val l := by omega
    simp [h3, h4, h5]
theorem digits_lead (n : Nat) (h : 1 ≤ n) : (digits n).getD 0 0 ≠ 48 := by
  induction n using Nat.strongRecOn with
  | _ n ih =>
    by_cases hn : n < 10
    · rw [digits_lt hn]
      intro e
      have : (dig n).toNat = 48 := congrArg UInt8.toNat e
      rw [dig_toNat] at this
      omega
    · rw [digits_ge hn]
      have h1 := ih (n / 10) (by omega) (by omega)
      have h2 := digits_ne (n / 10)
      rcases hd : digits (n / 10) with _ | ⟨x, r⟩
      · exact absurd hd h2
      · rw [hd] at h1; simpa using h1
theorem mayDec_digits (n : Nat) : mayDec (digits n) = true := by
  unfold mayDec
  rw [digits_all]
  rcases Nat.eq_zero_or_pos n with h | h
  · subst h; rw [digits_lt (by decide)]; rfl
  · have h1 := digits_lead n h
    have h2 := digits_ne n
    have h3 : (decide (digits n ≠ []) && decide ((digits n).getD 0 0 ≠ 48)) = true := by
      rw [Bool.and_eq_true, decide_eq_true_eq, decide_eq_true_eq]; exact ⟨h2, h1⟩
    rw [h3]; simp
theorem decE_digits (n most : Nat) : decE (digits n) most = if most < n then 5 else 0 := by unfold decE; rw [if_pos (mayDec_digits n), digits_val]
theorem decN_digits (n most : Nat) : decN (digits n) most = if most < n then 0 else n := by
  unfold decN
  rw [decE_digits, digits_val]
  by_cases h : most < n
  · rw [if_pos h, if_pos h]; rfl
  · rw [if_neg h, if_neg h]; rfl
theorem val_take_le (l : List UInt8) (k : Nat) : val (l.take k) ≤ val l := by
  have h := val_append (l.take k) (l.drop k)
  rw [List.take_append_drop] at h
  have : val (l.take k) * 1 ≤ val (l.take k) * 10 ^ (l.drop k).length := Nat.mul_le_mul_left _ (Nat.pow_pos (by decide))
  omega
end Go.Proofs.YtellhmbebimenaaDoor.Dec
end
