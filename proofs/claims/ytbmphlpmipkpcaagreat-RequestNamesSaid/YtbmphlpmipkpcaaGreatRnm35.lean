/- Contracts of package wire's Reader: Bytes of whatever number, Number, Int, Flag, Blob, Text, Count. Contracts of package wire's Reader: Number of any size, Int, Flag, Blob, Text, Count. What a part that was taken off a reader leaves: the reader, and the place where it was put. -/
import Derived.Test.YtbmphlpmipkpcaaGreatRnm34
import Derived.Laws.BitsAllLaws
import Derived.Test.YtbmphlpmipkpcaaGreatRnm6

section
set_option linter.unusedVariables false
set_option linter.unusedSimpArgs false
namespace Go.Proofs.YtbmphlpmipkpcaaGreat
open Go.RowKit

theorem RStep.ofDrewN {w w' : World} {base br n : Nat} {st : Option (List UInt8)} (h : RStep (w.drewN n) w' base br st) (hb : base ≤ w.heap.size) : RStep w w' base br st :=
  ⟨h.1, ((below_drewN w n).mono hb).trans h.2.1, (Kept.of_below (below_drewN w n)).trans h.2.2⟩
theorem RStep.trans {w w' w'' : World} {base br : Nat} {st st' : Option (List UInt8)} (h : RStep w w' base br st) (h' : RStep w' w'' base br st') : RStep w w'' base br st' :=
  ⟨h'.1, h.2.1.trans h'.2.1, h.2.2.trans h'.2.2⟩
/-- what Bytes tells -/
def rBy (st : Option (List UInt8)) (n : Int) : List UInt8 := (rTake st n).getD []
theorem rBy_none (n : Int) : rBy none n = [] := rfl
theorem rTake_bad {st : Option (List UInt8)} {n : Int} (h : ∀ l, st = some l → ¬ (0 ≤ n ∧ n ≤ l.length)) : rTake st n = none ∧ rRest st n = none := by
  cases st with
  | none => exact ⟨rfl, rfl⟩
  | some l => exact ⟨if_neg (h l rfl), if_neg (h l rfl)⟩
theorem rTake_fit {l : List UInt8} {n : Nat} (h : n ≤ l.length) : rTake (some l) (n : Int) = some (l.take n) ∧ rRest (some l) (n : Int) = some (l.drop n) := by
  constructor
  · show (if 0 ≤ (n : Int) ∧ (n : Int) ≤ l.length then some (l.take (n : Int).toNat) else none) = _
    rw [if_pos ⟨by omega, by omega⟩, Int.toNat_natCast]
  · show (if 0 ≤ (n : Int) ∧ (n : Int) ≤ l.length then some (l.drop (n : Int).toNat) else none) = _
    rw [if_pos ⟨by omega, by omega⟩, Int.toNat_natCast]

set_option maxRecDepth 4000 in
set_option maxHeartbeats 1000000 in
theorem rbytes_bad (base br : Nat) (st : Option (List UInt8)) (n : Int) (hn : -9223372036854775808 ≤ n ∧ n ≤ 9223372036854775807) (hbad : ∀ l, st = some l → ¬ (0 ≤ n ∧ n ≤ l.length)) (w : World) (h : IsR w base br st) :
    Calls Tryz.prog 55 #[.pointer (some ⟨br, 0, none⟩), .int .i64 n] w fun e w' => e = .returned (.slice none 0 0) ∧ RStep w w' base br none := by
  have HWE := Lib.hid (rwell_any base br _ w h)
  have HLF := Lib.hid (rleft_any base br _ w h)
  have hbs : base ≤ w.heap.size := by have := h.lt; omega
  have HFL := Lib.hid (rfail_any base br st w h)
  have HFN := Lib.hid (fun n => rfail_any base br st (w.drewN n) (h.drewN n))
  cases st with
  | none =>
    rw [show (none : Option (List UInt8)).isSome = false from rfl] at HWE
    go_enter Tryz.func55, Tryz.ntmps55
    go_wp2_with fail
    refine HWE.out.mono ?_
    rintro e w1 ⟨rfl, rfl⟩
    go_wp2_with fail
    refine HFL.out.mono ?_
    rintro e w1 ⟨rfl, hr⟩
    have HR := Lib.hid hr; clear hr
    go_wp2
    go_ret
    exact ⟨rfl, HR.out⟩
  | some l =>
    rw [show (some l : Option (List UInt8)).isSome = true from rfl] at HWE
    rw [show rLen (some l) = l.length from rfl] at HLF
    have hb := hbad l rfl
    clear hbad
    generalize l.length = m at *
    by_cases hn0 : n < 0
    · go_enter Tryz.func55, Tryz.ntmps55
      go_wp2_with fail
      refine HWE.out.mono ?_
      rintro e w1 ⟨rfl, rfl⟩
      go_wp2_with fail
      refine HFL.out.mono ?_
      rintro e w1 ⟨rfl, hr⟩
      have HR := Lib.hid hr; clear hr
      go_wp2
      go_ret
      exact ⟨rfl, HR.out⟩
    · have hm : (m : Int) < n := by omega
      go_enter Tryz.func55, Tryz.ntmps55
      go_wp2_with fail
      refine HWE.out.mono ?_
      rintro e w1 ⟨rfl, rfl⟩
      go_wp2_with fail
      refine HLF.out.mono ?_
      rintro e w1 ⟨rfl, nd, rfl⟩
      go_wp2_with fail
      refine (HFN.out nd).mono ?_
      rintro e w2 ⟨rfl, hr⟩
      have HR := Lib.hid (hr.ofDrewN hbs); clear hr
      go_wp2
      go_ret
      exact ⟨rfl, HR.out⟩

theorem rbytes_any (base br : Nat) (st : Option (List UInt8)) (n : Int) (hn : -9223372036854775808 ≤ n ∧ n ≤ 9223372036854775807) (w : World) (h : IsR w base br st) :
    Calls Tryz.prog 55 #[.pointer (some ⟨br, 0, none⟩), .int .i64 n] w fun e w' => ∃ v, e = .returned v ∧ w'.ownsRow w.heap.size 5 1 v (rBy st n).length (bytesV (rBy st n)) ∧ RStep w w' base br (rRest st n) := by
  by_cases hf : ∃ l, st = some l ∧ 0 ≤ n ∧ n ≤ l.length
  · obtain ⟨l, rfl, h0, h1⟩ := hf
    obtain ⟨k, rfl⟩ := Int.eq_ofNat_of_zero_le h0
    have hk : k ≤ l.length := by omega
    refine (rbytes_fit base br l k hk w h).mono ?_
    rintro e w' ⟨v, rfl, hown, hr, -⟩
    refine ⟨v, rfl, ?_, by rw [(rTake_fit hk).2]; exact hr⟩
    have : rBy (some l) (k : Int) = l.take k := by unfold rBy; rw [(rTake_fit hk).1]; rfl
    rw [this, List.length_take, Nat.min_eq_left hk]; exact hown
  · have hb : ∀ l, st = some l → ¬ (0 ≤ n ∧ n ≤ l.length) := fun l e hh => hf ⟨l, e, hh⟩
    refine (rbytes_bad base br st n hn hb w h).mono ?_
    rintro e w' ⟨rfl, hr⟩
    refine ⟨_, rfl, ?_, by rw [(rTake_bad hb).2]; exact hr⟩
    have : rBy st n = [] := by unfold rBy; rw [(rTake_bad hb).1]; rfl
    rw [this]; exact World.ownsRow_nil _ _ _ _

def beVal (l : List UInt8) : Nat := l.foldl (fun n b => n * 256 + b.toNat) 0
def rSize (size : Int) : Bool := size == 1 || size == 2 || size == 4 || size == 8
def rNumV (st : Option (List UInt8)) (size : Int) : Nat := if rSize size then beVal (rBy st size) else 0
def rNumS (st : Option (List UInt8)) (size : Int) : Option (List UInt8) := if rSize size then rRest st size else none
theorem beVal_snoc (l : List UInt8) (b : UInt8) : beVal (l ++ [b]) = beVal l * 256 + b.toNat := by unfold beVal; rw [List.foldl_append]; rfl
theorem beVal_lt (n : Nat) : ∀ l : List UInt8, l.length = n → beVal l < 256 ^ n := by
  induction n with
  | zero => intro l h; rw [List.eq_nil_of_length_eq_zero h]; decide
  | succ n ih =>
    intro l h
    have hne : l ≠ [] := fun e => by rw [e] at h; simp at h
    have h1 := ih l.dropLast (by rw [List.length_dropLast, h]; rfl)
    have h2 := (l.getLast hne).toNat_lt
    rw [← List.dropLast_concat_getLast hne, beVal_snoc, Nat.pow_succ]
    omega
theorem beVal_step {x : List UInt8} {i : Nat} {b : UInt8} (h : x[i]? = some b) (hi : i < 8) : beVal (x.take i) < 72057594037927936 ∧ beVal (x.take (i + 1)) = beVal (x.take i) * 256 + b.toNat := by
  have hl := (List.getElem?_eq_some_iff.1 h).1
  constructor
  · have h1 := beVal_lt i (x.take i) (by rw [List.length_take]; omega)
    have h2 : 256 ^ i ≤ 256 ^ 7 := Nat.pow_le_pow_right (by decide) (by omega)
    omega
  · rw [List.take_add_one, h]
    exact beVal_snoc _ _
theorem or_step (V b : Nat) (hV : V < 72057594037927936) (hb : b < 2 ^ 8) : bits .or .u64 ((V : Int) * 256) (b : Int) = ((V * 256 + b : Nat) : Int) := by
  have e : ((V : Int) * 256) = ((V * 256 : Nat) : Int) := by omega
  rw [e, u64_or_nat (V * 256) b (by omega) (by omega)]
  congr 1
  rw [show V * 256 = V <<< 8 from by rw [Nat.shiftLeft_eq], ← Nat.shiftLeft_add_eq_or_of_lt hb]
theorem rBy_le (st : Option (List UInt8)) (k : Nat) : (rBy st (k : Int)).length ≤ k := by
  unfold rBy rTake
  cases st with
  | none => exact Nat.zero_le _
  | some l => dsimp only; split <;> simp; omega

set_option maxRecDepth 4000 in
set_option maxHeartbeats 1000000 in
theorem rnumber_bad (base br : Nat) (st : Option (List UInt8)) (size : Int) (hs : rSize size = false) (w : World) (h : IsR w base br st) :
    Calls Tryz.prog 50 #[.pointer (some ⟨br, 0, none⟩), .int .i64 size] w fun e w' => e = .returned (.int .u64 0) ∧ RStep w w' base br none := by
  unfold rSize at hs
  simp only [Bool.or_eq_false_iff, beq_eq_false_iff_ne] at hs
  obtain ⟨⟨⟨s1, s2⟩, s4⟩, s8⟩ := hs
  have HFL := Lib.hid (rfail_any base br st w h)
  go_enter Tryz.func50, Tryz.ntmps50
  go_wp2_with fail
  refine HFL.out.mono ?_
  rintro e w1 ⟨rfl, hr⟩
  have HR := Lib.hid hr; clear hr
  go_wp2
  go_ret
  exact ⟨rfl, HR.out⟩

set_option maxRecDepth 4000 in
set_option maxHeartbeats 1000000 in
theorem rnumber_fit (base br : Nat) (st : Option (List UInt8)) (k : Nat) (hk : k = 1 ∨ k = 2 ∨ k = 4 ∨ k = 8) (w : World) (h : IsR w base br st) :
    Calls Tryz.prog 50 #[.pointer (some ⟨br, 0, none⟩), .int .i64 (k : Int)] w fun e w' => e = .returned (.int .u64 (beVal (rBy st (k : Int)) : Int)) ∧ RStep w w' base br (rRest st (k : Int)) := by
  have HBY := Lib.hid (rbytes_any base br st (k : Int) (by omega) w h)
  have hle := rBy_le st k
  generalize rBy st (k : Int) = x at *
  have HLX := Lib.hid (rfl : x.length = x.length)
  generalize hm : x.length = m at *
  have HM := Lib.hid hm; clear hm HLX
  rcases hk with rfl | rfl | rfl | rfl
  all_goals
    go_enter Tryz.func50, Tryz.ntmps50
    go_wp2_with fail
    refine HBY.out.mono ?_
    rintro e w1 ⟨v, rfl, hown, hr⟩
    obtain ⟨q, c, rfl⟩ := own_form hown
    have HO := Lib.hid hown
    have HR := Lib.hid hr
    clear hown hr
    go_wp2_with fail
    go_loopw [4, 17] (fun a n wr => wr = w1 ∧ ∃ i : Nat, i ≤ m ∧ n = .int .i64 (i : Int) ∧ a = .int .u64 (beVal (x.take i) : Int)) (fun _ n _ => m - (intOf n).toNat)
    case atStart => exact ⟨rfl, 0, Nat.zero_le _, rfl, rfl⟩
    case round =>
      obtain ⟨rfl, i, hi, rfl, rfl⟩ := hrel
      by_cases him : i < m
      · obtain ⟨b, hb⟩ : ∃ b, x[i]? = some b := ⟨_, List.getElem?_eq_getElem (by have := HM.out; omega)⟩
        obtain ⟨g, rfl⟩ : ∃ g, q = some ⟨g, 0, none⟩ := by
          rcases HO.out.2 with ⟨h, h0⟩ | ⟨g, c, cur, h, _⟩
          · omega
          · injection h with h; exact ⟨g, h⟩
        have hcell : wr.cell? ⟨g, i, none⟩ = some (.int .u8 (b.toNat : Int)) := by rw [HO.out.cellAt i (by omega), bytesV_at, hb]; rfl
        obtain ⟨t1, t2⟩ := beVal_step hb (by omega)
        have t3 := b.toNat_lt
        have HT := Lib.hid t2
        generalize beVal (x.take i) = V at *
        clear hb t2
        generalize b.toNat = bb at *
        go_wp2
        go_roundw
        case rel => exact ⟨trivial, i + 1, by omega, by go_num, by rw [or_step V bb t1 t3, HT.out]⟩
        case measure => simp [intOf]; omega
      · obtain rfl : i = m := by omega
        have HTK : Hid (x.take i = x) := Lib.hid (List.take_of_length_le (by have := HM.out; omega))
        rw [HTK.out]
        go_wp2
        go_ret
        exact ⟨rfl, HR.out⟩
end Go.Proofs.YtbmphlpmipkpcaaGreat
end

section
set_option linter.unusedVariables false
set_option linter.unusedSimpArgs false
namespace Go.Proofs.YtbmphlpmipkpcaaGreat
open Go.RowKit

theorem own_mono {w : World} {base base' : Nat} {e : TypeId} {n : Nat} {v : Value} {xs : List Value} (h : w.ownsRow base e 1 v n xs) (hb : base' ≤ base) : w.ownsRow base' e 1 v n xs := by
  obtain ⟨hl, hor⟩ := h
  refine ⟨hl, ?_⟩
  rcases hor with h | ⟨g', cap', cur, e, hg, h4⟩
  · exact .inl h
  · exact .inr ⟨g', cap', cur, e, Nat.le_trans hb hg, h4⟩
theorem rnumber_any (base br : Nat) (st : Option (List UInt8)) (size : Int) (w : World) (h : IsR w base br st) :
    Calls Tryz.prog 50 #[.pointer (some ⟨br, 0, none⟩), .int .i64 size] w fun e w' => e = .returned (.int .u64 (rNumV st size : Int)) ∧ RStep w w' base br (rNumS st size) := by
  by_cases hs : rSize size = true
  · have h2 : ∃ k : Nat, (k = 1 ∨ k = 2 ∨ k = 4 ∨ k = 8) ∧ size = (k : Int) := by
      unfold rSize at hs
      simp only [Bool.or_eq_true, beq_iff_eq] at hs
      exact ⟨size.toNat, by omega, by omega⟩
    obtain ⟨k, hk, rfl⟩ := h2
    refine (rnumber_fit base br st k hk w h).mono ?_
    rintro e w' ⟨rfl, hr⟩
    unfold rNumV rNumS
    rw [if_pos hs, if_pos hs]
    exact ⟨rfl, hr⟩
  · refine (rnumber_bad base br st size (by simpa using hs) w h).mono ?_
    rintro e w' ⟨rfl, hr⟩
    unfold rNumV rNumS
    rw [if_neg hs, if_neg hs]
    exact ⟨rfl, hr⟩
theorem rNumV_lt (st : Option (List UInt8)) (k : Nat) : rNumV st (k : Int) < 256 ^ k := by
  unfold rNumV
  split
  · have h1 := beVal_lt _ (rBy st (k : Int)) rfl
    exact Nat.lt_of_lt_of_le h1 (Nat.pow_le_pow_right (by decide) (rBy_le st k))
  · exact Nat.pow_pos (by decide)

set_option maxRecDepth 4000 in
set_option maxHeartbeats 1000000 in
theorem rcount_any (base br : Nat) (st : Option (List UInt8)) (w : World) (h : IsR w base br st) :
    Calls Tryz.prog 51 #[.pointer (some ⟨br, 0, none⟩)] w fun e w' => e = .returned (.int .i64 (rNumV st 2 : Int)) ∧ RStep w w' base br (rNumS st 2) := by
  have HNU := Lib.hid (rnumber_any base br st 2 w h)
  have hlt := rNumV_lt st 2
  change rNumV st 2 < 65536 at hlt
  generalize rNumV st 2 = V at *
  go_enter Tryz.func51, Tryz.ntmps51
  go_wp2_with fail
  refine HNU.out.mono ?_
  rintro e w1 ⟨rfl, hr⟩
  have HR := Lib.hid hr; clear hr
  go_wp2
  go_ret
  exact ⟨rfl, HR.out⟩

set_option maxRecDepth 4000 in
set_option maxHeartbeats 1000000 in
theorem rflag_any (base br : Nat) (st : Option (List UInt8)) (w : World) (h : IsR w base br st) :
    Calls Tryz.prog 115 #[.pointer (some ⟨br, 0, none⟩)] w fun e w' => e = .returned (.bool (rNumV st 1 == 1)) ∧ RStep w w' base br (if rNumV st 1 > 1 then none else rNumS st 1) := by
  have HNU := Lib.hid (rnumber_any base br st 1 w h)
  have hlt := rNumV_lt st 1
  change rNumV st 1 < 256 at hlt
  generalize rNumV st 1 = V at *
  rcases (by omega : V = 0 ∨ V = 1 ∨ 1 < V) with rfl | rfl | hV
  · go_enter Tryz.func115, Tryz.ntmps115
    go_wp2_with fail
    refine HNU.out.mono ?_
    rintro e w1 ⟨rfl, hr⟩
    have HR := Lib.hid hr; clear hr
    go_wp2
    go_ret
    exact ⟨rfl, HR.out⟩
  · go_enter Tryz.func115, Tryz.ntmps115
    go_wp2_with fail
    refine HNU.out.mono ?_
    rintro e w1 ⟨rfl, hr⟩
    have HR := Lib.hid hr; clear hr
    go_wp2
    go_ret
    exact ⟨rfl, HR.out⟩
  · rw [if_pos hV, show (V == 1) = ((V : Int) == 1) from by rw [Bool.eq_iff_iff]; simp; omega]
    go_enter Tryz.func115, Tryz.ntmps115
    go_wp2_with fail
    refine HNU.out.mono ?_
    rintro e w1 ⟨rfl, hr⟩
    have HF := Lib.hid (rfail_any base br _ w1 hr.1)
    have HR := Lib.hid hr; clear hr
    go_wp2_with fail
    refine HF.out.mono ?_
    rintro e w2 ⟨rfl, hr⟩
    have HR2 := Lib.hid (HR.out.trans hr); clear hr
    go_wp2
    go_ret
    exact ⟨rfl, HR2.out⟩

set_option maxRecDepth 4000 in
set_option maxHeartbeats 1000000 in
theorem rtake_any (base br : Nat) (st : Option (List UInt8)) (size : Int) (w : World) (h : IsR w base br st) :
    Calls Tryz.prog 107 #[.func (.func 50) #[.pointer (some ⟨br, 0, none⟩)] #[], .int .i64 size] w fun e w' => e = .returned (.int .u64 (rNumV st size : Int)) ∧ RStep w w' base br (rNumS st size) := by
  have HNU := Lib.hid (rnumber_any base br st size w h)
  generalize rNumV st size = V at *
  go_enter Tryz.func107, Tryz.ntmps107
  go_wp2_with fail
  refine HNU.out.mono ?_
  rintro e w1 ⟨rfl, hr⟩
  have HR := Lib.hid hr; clear hr
  go_wp2
  go_ret
  exact ⟨rfl, HR.out⟩

set_option maxRecDepth 4000 in
set_option maxHeartbeats 1000000 in
theorem rint_any (base br : Nat) (st : Option (List UInt8)) (w : World) (h : IsR w base br st) :
    Calls Tryz.prog 108 #[.pointer (some ⟨br, 0, none⟩)] w fun e w' => e = .returned (.int .i64 (wrap64 (rNumV st 8 : Int))) ∧ RStep w w' base br (rNumS st 8) := by
  have HNU := Lib.hid (rtake_any base br st 8 w h)
  have hlt := rNumV_lt st 8
  change rNumV st 8 < 18446744073709551616 at hlt
  generalize rNumV st 8 = V at *
  go_enter Tryz.func108, Tryz.ntmps108
  go_wp2_with fail
  refine HNU.out.mono ?_
  rintro e w1 ⟨rfl, hr⟩
  have HR := Lib.hid hr; clear hr
  go_wp2
  go_ret
  exact ⟨rfl, HR.out⟩

/-- what Blob tells, and leaves -/
def rBlobV (st : Option (List UInt8)) : List UInt8 := if rNumV st 4 > 16777216 then [] else rBy (rNumS st 4) (rNumV st 4 : Nat)
def rBlobS (st : Option (List UInt8)) : Option (List UInt8) := if rNumV st 4 > 16777216 then none else rRest (rNumS st 4) (rNumV st 4 : Nat)

set_option maxRecDepth 4000 in
set_option maxHeartbeats 1000000 in
theorem rblob_any (base br : Nat) (st : Option (List UInt8)) (w : World) (h : IsR w base br st) :
    Calls Tryz.prog 53 #[.pointer (some ⟨br, 0, none⟩)] w fun e w' => ∃ v, e = .returned v ∧ w'.ownsRow w.heap.size 5 1 v (rBlobV st).length (bytesV (rBlobV st)) ∧ RStep w w' base br (rBlobS st) := by
  have HNU := Lib.hid (rtake_any base br st 4 w h)
  have hlt := rNumV_lt st 4
  change rNumV st 4 < 4294967296 at hlt
  by_cases hbig : rNumV st 4 > 16777216
  · have hV : rBlobV st = [] ∧ rBlobS st = none := ⟨if_pos hbig, if_pos hbig⟩
    rw [hV.1, hV.2]
    generalize rNumV st 4 = V at *
    clear hV
    go_enter Tryz.func53, Tryz.ntmps53
    go_wp2_with fail
    refine HNU.out.mono ?_
    rintro e w1 ⟨rfl, hr⟩
    have HF := Lib.hid (rfail_any base br _ w1 hr.1)
    have HR := Lib.hid hr; clear hr
    go_wp2_with fail
    refine HF.out.mono ?_
    rintro e w2 ⟨rfl, hr⟩
    have HR2 := Lib.hid (HR.out.trans hr); clear hr
    go_wp2
    go_ret
    exact ⟨_, rfl, World.ownsRow_nil _ _ _ _, HR2.out⟩
  · have HV : Hid (rBlobV st = rBy (rNumS st 4) (rNumV st 4 : Nat) ∧ rBlobS st = rRest (rNumS st 4) (rNumV st 4 : Nat)) := Lib.hid ⟨if_neg hbig, if_neg hbig⟩
    have hbs : w.heap.size = w.heap.size := rfl
    have HBS := Lib.hid h.lt
    generalize rNumV st 4 = V at *
    go_enter Tryz.func53, Tryz.ntmps53
    go_wp2_with fail
    refine HNU.out.mono ?_
    rintro e w1 ⟨rfl, hr⟩
    have HBY := Lib.hid (rbytes_any base br _ (V : Int) (by omega) w1 hr.1)
    have HR := Lib.hid hr; clear hr
    rw [← HV.out.1, ← HV.out.2] at HBY
    go_wp2_with fail
    refine HBY.out.mono ?_
    rintro e w2 ⟨v, rfl, hown, hr⟩
    have HOW := Lib.hid (own_mono hown HR.out.2.1.size)
    have HR2 := Lib.hid (HR.out.trans hr)
    clear hr hown
    obtain ⟨q, c, rfl⟩ := own_form HOW.out
    go_wp2
    go_ret
    exact ⟨_, rfl, HOW.out, HR2.out⟩

end Go.Proofs.YtbmphlpmipkpcaaGreat
end

section
set_option linter.unusedVariables false
set_option linter.unusedSimpArgs false
namespace Go.Proofs.YtbmphlpmipkpcaaGreat
open Go.RowKit

/-- types that a reader is made of -/
def RU : List TypeId := [164, 5]
theorem ru_rt {t : TypeId} (h : t ∉ RU) : t ∉ RT := fun k => h (by unfold RT at k; unfold RU; rw [List.mem_singleton.1 k]; simp)
/-- all blocks but one, of other types than a reader's, stay -/
structure KeptB (b : Nat) (w w' : World) : Prop where
  size : w.heap.size ≤ w'.heap.size
  block : ∀ i cs t fr, i ≠ b → w.heap[i]? = some (.cells cs t fr) → t ∉ RT → w'.heap[i]? = some (.cells cs t fr)
theorem KeptB.trans {b : Nat} {a w w' : World} (h : KeptB b a w) (k : KeptB b w w') : KeptB b a w' := ⟨Nat.le_trans h.size k.size, fun i cs t fr hi h1 h2 => k.block i cs t fr hi (h.block i cs t fr hi h1 h2) h2⟩
theorem KeptB.refl (b : Nat) (w : World) : KeptB b w w := ⟨Nat.le_refl _, fun _ _ _ _ _ h _ => h⟩
theorem KeptB.of_kept {b : Nat} {w w' : World} (h : Kept RT w w') : KeptB b w w' := ⟨h.size, fun i cs t fr _ h1 h2 => h.block i cs t fr h1 h2⟩
theorem KeptB.of_below {b : Nat} {w w' : World} (h : Below w.heap.size w w') : KeptB b w w' := KeptB.of_kept (Kept.of_below h)
theorem KeptB.set {b : Nat} {a w : World} (h : KeptB b a w) (o : Nat) (v : Value) : KeptB b a (w.setCell ⟨b, o, none⟩ v) :=
  h.trans ⟨by simp, fun i cs t fr hi h1 _ => by rw [heap_setCell_other w ⟨b, o, none⟩ i v hi]; exact h1⟩
theorem IsR.set {w : World} {base br b : Nat} {st : Option (List UInt8)} {cs : Array Value} {e : TypeId} {fr : Nat × Nat} (h : IsR w base br st) (hb : w.heap[b]? = some (.cells cs e fr)) (he : e ∉ RU) (o : Nat) (v : Value) : IsR (w.setCell ⟨b, o, none⟩ v) base br st := by
  obtain ⟨hbase, g, cap, a, bad, L, h1, h2, h3⟩ := h
  have e1 : e ≠ 164 := fun k => he (by rw [k]; simp [RU])
  have e2 : e ≠ 5 := fun k => he (by rw [k]; simp [RU])
  have hne : br ≠ b := fun k => by
    subst k
    rw [h1] at hb
    injection hb with hb
    injection hb with k1 k2 k3
    exact e1 k2.symm
  exact ⟨hbase, g, cap, a, bad, L, (heap_setCell_other w ⟨b, o, none⟩ br v hne).trans h1, own_set h2 hb (Ne.symm e2) o v, h3⟩
/-- what a part that was taken leaves: the reader, and the place's row -/
structure GS (w w' : World) (base br : Nat) (st' : Option (List UInt8)) (b : Nat) (e : TypeId) (cs' : Array Value) : Prop where
  i : IsR w' base br st'
  r : w'.heap[b]? = some (.cells cs' e (0, 0))
  k : KeptB b w w'
  b : Below base w w'
theorem GS.pre {w w1 w' : World} {base br : Nat} {st' : Option (List UInt8)} {b : Nat} {e : TypeId} {cs' : Array Value} (hb : Below w.heap.size w w1) (hl : base ≤ w.heap.size) (h : GS w1 w' base br st' b e cs') : GS w w' base br st' b e cs' :=
  ⟨h.i, h.r, (KeptB.of_below hb).trans h.k, (hb.mono hl).trans h.b⟩
theorem GS.of_step {w w1 : World} {base br : Nat} {st' : Option (List UInt8)} {b : Nat} {e : TypeId} {cs : Array Value} (h : RStep w w1 base br st') (hr : w.heap[b]? = some (.cells cs e (0, 0))) (he : e ∉ RU) (hb : base ≤ b) (o : Nat) (v : Value) : GS w (w1.setCell ⟨b, o, none⟩ v) base br st' b e (cs.setIfInBounds o v) := by
  have h1 := h.2.2.row hr (ru_rt he)
  exact ⟨h.1.set h1 he o v, heap_setCell_same _ _ _ _ _ _ h1, (KeptB.of_kept h.2.2).set o v, h.2.1.setCell hb v⟩
theorem GS.trans {w w1 w2 : World} {base br : Nat} {s1 s2 : Option (List UInt8)} {b : Nat} {e : TypeId} {c1 c2 : Array Value} (h : GS w w1 base br s1 b e c1) (k : GS w1 w2 base br s2 b e c2) : GS w w2 base br s2 b e c2 :=
  ⟨k.i, k.r, h.k.trans k.k, h.b.trans k.b⟩
theorem GS.of_box {w w1 w2 : World} {base br m : Nat} {st' : Option (List UInt8)} {b : Nat} {e em : TypeId} {cs cm : Array Value} (hB : Below w.heap.size w w1) (hg : GS w1 w2 base br st' m em cm) (hm : w.heap.size ≤ m) (hr : w.heap[b]? = some (.cells cs e (0, 0))) (he : e ∉ RU) (hb : base ≤ b) (hl : base ≤ w.heap.size) (o : Nat) (v : Value) : GS w (w2.setCell ⟨b, o, none⟩ v) base br st' b e (cs.setIfInBounds o v) := by
  have hbl := block_lt hr
  have h1 := hg.k.block b cs e (0, 0) (by omega) ((hB.block b hbl).trans hr) (ru_rt he)
  have hk : KeptB b w w2 := ⟨Nat.le_trans hB.size hg.k.size, fun i c t fr hi h2 h3 => hg.k.block i c t fr (by have := block_lt h2; omega) ((hB.block i (block_lt h2)).trans h2) h3⟩
  exact ⟨hg.i.set h1 he o v, heap_setCell_same _ _ _ _ _ _ h1, hk.set o v, ((hB.mono hl).trans hg.b).setCell hb v⟩
end Go.Proofs.YtbmphlpmipkpcaaGreat
end
