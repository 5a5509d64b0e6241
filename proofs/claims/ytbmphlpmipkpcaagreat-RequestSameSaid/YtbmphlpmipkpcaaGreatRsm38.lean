/- Contracts of package wire's Reader: Bytes of whatever number, Number, Int, Flag, Blob, Text, Count. -/
import Derived.Test.YtbmphlpmipkpcaaGreatRsm37
import Derived.Laws.BitsAllLaws

set_option linter.unusedVariables false
set_option linter.unusedSimpArgs false
namespace Go.Proofs.YtbmphlpmipkpcaaGreat
open Go.RowKit

theorem RStep.ofDrewN {w w' : World} {base br n : Nat} {st : Option (List UInt8)} (h : RStep (w.drewN n) w' base br st) (hb : base ≤ w.heap.size) : RStep w w' base br st :=
  ⟨h.1, ((below_drewN w n).mono hb).trans h.2.1, (Kept.of_below (below_drewN w n)).trans h.2.2⟩
theorem RStep.trans {w w' w'' : World} {base br : Nat} {st st' : Option (List UInt8)} (h : RStep w w' base br st) (h' : RStep w' w'' base br st') : RStep w w'' base br st' :=
  ⟨h'.1, h.2.1.trans h'.2.1, h.2.2.trans h'.2.2⟩
/-- what Bytes tells -/
def rBy (st : Option (List UInt8)) (n : Int) : List UInt8 := (rTake st n).getD []
theorem rBy_none (n : Int) : rBy none n = [] := rfl
theorem rTake_bad {st : Option (List UInt8)} {n : Int} (h : ∀ l, st = some l → ¬ (0 ≤ n ∧ n ≤ l.length)) : rTake st n = none ∧ rRest st n = none := by
  cases st with
  | none => exact ⟨rfl, rfl⟩
  | some l => exact ⟨if_neg (h l rfl), if_neg (h l rfl)⟩
theorem rTake_fit {l : List UInt8} {n : Nat} (h : n ≤ l.length) : rTake (some l) (n : Int) = some (l.take n) ∧ rRest (some l) (n : Int) = some (l.drop n) := by
  constructor
  · show (if 0 ≤ (n : Int) ∧ (n : Int) ≤ l.length then some (l.take (n : Int).toNat) else none) = _
    rw [if_pos ⟨by omega, by omega⟩, Int.toNat_natCast]
  · show (if 0 ≤ (n : Int) ∧ (n : Int) ≤ l.length then some (l.drop (n : Int).toNat) else none) = _
    rw [if_pos ⟨by omega, by omega⟩, Int.toNat_natCast]

set_option maxRecDepth 4000 in
set_option maxHeartbeats 1000000 in
theorem rbytes_bad (base br : Nat) (st : Option (List UInt8)) (n : Int) (hn : -9223372036854775808 ≤ n ∧ n ≤ 9223372036854775807) (hbad : ∀ l, st = some l → ¬ (0 ≤ n ∧ n ≤ l.length)) (w : World) (h : IsR w base br st) :
    Calls Tryz.prog 55 #[.pointer (some ⟨br, 0, none⟩), .int .i64 n] w fun e w' => e = .returned (.slice none 0 0) ∧ RStep w w' base br none := by
  have HWE := Lib.hid (rwell_any base br _ w h)
  have HLF := Lib.hid (rleft_any base br _ w h)
  have hbs : base ≤ w.heap.size := by have := h.lt; omega
  have HFL := Lib.hid (rfail_any base br st w h)
  have HFN := Lib.hid (fun n => rfail_any base br st (w.drewN n) (h.drewN n))
  cases st with
  | none =>
    rw [show (none : Option (List UInt8)).isSome = false from rfl] at HWE
    go_enter Tryz.func55, Tryz.ntmps55
    go_wp2_with fail
    refine HWE.out.mono ?_
    rintro e w1 ⟨rfl, rfl⟩
    go_wp2_with fail
    refine HFL.out.mono ?_
    rintro e w1 ⟨rfl, hr⟩
    have HR := Lib.hid hr; clear hr
    go_wp2
    go_ret
    exact ⟨rfl, HR.out⟩
  | some l =>
    rw [show (some l : Option (List UInt8)).isSome = true from rfl] at HWE
    rw [show rLen (some l) = l.length from rfl] at HLF
    have hb := hbad l rfl
    clear hbad
    generalize l.length = m at *
    by_cases hn0 : n < 0
    · go_enter Tryz.func55, Tryz.ntmps55
      go_wp2_with fail
      refine HWE.out.mono ?_
      rintro e w1 ⟨rfl, rfl⟩
      go_wp2_with fail
      refine HFL.out.mono ?_
      rintro e w1 ⟨rfl, hr⟩
      have HR := Lib.hid hr; clear hr
      go_wp2
      go_ret
      exact ⟨rfl, HR.out⟩
    · have hm : (m : Int) < n := by omega
      go_enter Tryz.func55, Tryz.ntmps55
      go_wp2_with fail
      refine HWE.out.mono ?_
      rintro e w1 ⟨rfl, rfl⟩
      go_wp2_with fail
      refine HLF.out.mono ?_
      rintro e w1 ⟨rfl, nd, rfl⟩
      go_wp2_with fail
      refine (HFN.out nd).mono ?_
      rintro e w2 ⟨rfl, hr⟩
      have HR := Lib.hid (hr.ofDrewN hbs); clear hr
      go_wp2
      go_ret
      exact ⟨rfl, HR.out⟩

theorem rbytes_any (base br : Nat) (st : Option (List UInt8)) (n : Int) (hn : -9223372036854775808 ≤ n ∧ n ≤ 9223372036854775807) (w : World) (h : IsR w base br st) :
    Calls Tryz.prog 55 #[.pointer (some ⟨br, 0, none⟩), .int .i64 n] w fun e w' => ∃ v, e = .returned v ∧ w'.ownsRow w.heap.size 5 1 v (rBy st n).length (bytesV (rBy st n)) ∧ RStep w w' base br (rRest st n) := by
  by_cases hf : ∃ l, st = some l ∧ 0 ≤ n ∧ n ≤ l.length
  · obtain ⟨l, rfl, h0, h1⟩ := hf
    obtain ⟨k, rfl⟩ := Int.eq_ofNat_of_zero_le h0
    have hk : k ≤ l.length := by omega
    refine (rbytes_fit base br l k hk w h).mono ?_
    rintro e w' ⟨v, rfl, hown, hr, -⟩
    refine ⟨v, rfl, ?_, by rw [(rTake_fit hk).2]; exact hr⟩
    have : rBy (some l) (k : Int) = l.take k := by unfold rBy; rw [(rTake_fit hk).1]; rfl
    rw [this, List.length_take, Nat.min_eq_left hk]; exact hown
  · have hb : ∀ l, st = some l → ¬ (0 ≤ n ∧ n ≤ l.length) := fun l e hh => hf ⟨l, e, hh⟩
    refine (rbytes_bad base br st n hn hb w h).mono ?_
    rintro e w' ⟨rfl, hr⟩
    refine ⟨_, rfl, ?_, by rw [(rTake_bad hb).2]; exact hr⟩
    have : rBy st n = [] := by unfold rBy; rw [(rTake_bad hb).1]; rfl
    rw [this]; exact World.ownsRow_nil _ _ _ _

def beVal (l : List UInt8) : Nat := l.foldl (fun n b => n * 256 + b.toNat) 0
def rSize (size : Int) : Bool := size == 1 || size == 2 || size == 4 || size == 8
def rNumV (st : Option (List UInt8)) (size : Int) : Nat := if rSize size then beVal (rBy st size) else 0
def rNumS (st : Option (List UInt8)) (size : Int) : Option (List UInt8) := if rSize size then rRest st size else none
theorem beVal_snoc (l : List UInt8) (b : UInt8) : beVal (l ++ [b]) = beVal l * 256 + b.toNat := by unfold beVal; rw [List.foldl_append]; rfl
theorem beVal_lt (n : Nat) : ∀ l : List UInt8, l.length = n → beVal l < 256 ^ n := by
  induction n with
  | zero => intro l h; rw [List.eq_nil_of_length_eq_zero h]; decide
  | succ n ih =>
    intro l h
    have hne : l ≠ [] := fun e => by rw [e] at h; simp at h
    have h1 := ih l.dropLast (by rw [List.length_dropLast, h]; rfl)
    have h2 := (l.getLast hne).toNat_lt
    rw [← List.dropLast_concat_getLast hne, beVal_snoc, Nat.pow_succ]
    omega
theorem beVal_step {x : List UInt8} {i : Nat} {b : UInt8} (h : x[i]? = some b) (hi : i < 8) : beVal (x.take i) < 72057594037927936 ∧ beVal (x.take (i + 1)) = beVal (x.take i) * 256 + b.toNat := by
  have hl := (List.getElem?_eq_some_iff.1 h).1
  constructor
  · have h1 := beVal_lt i (x.take i) (by rw [List.length_take]; omega)
    have h2 : 256 ^ i ≤ 256 ^ 7 := Nat.pow_le_pow_right (by decide) (by omega)
    omega
  · rw [List.take_add_one, h]
    exact beVal_snoc _ _
theorem or_step (V b : Nat) (hV : V < 72057594037927936) (hb : b < 2 ^ 8) : bits .or .u64 ((V : Int) * 256) (b : Int) = ((V * 256 + b : Nat) : Int) := by
  have e : ((V : Int) * 256) = ((V * 256 : Nat) : Int) := by omega
  rw [e, u64_or_nat (V * 256) b (by omega) (by omega)]
  congr 1
  rw [show V * 256 = V <<< 8 from by rw [Nat.shiftLeft_eq], ← Nat.shiftLeft_add_eq_or_of_lt hb]
theorem rBy_le (st : Option (List UInt8)) (k : Nat) : (rBy st (k : Int)).length ≤ k := by
  unfold rBy rTake
  cases st with
  | none => exact Nat.zero_le _
  | some l => dsimp only; split <;> simp; omega

set_option maxRecDepth 4000 in
set_option maxHeartbeats 1000000 in
theorem rnumber_bad (base br : Nat) (st : Option (List UInt8)) (size : Int) (hs : rSize size = false) (w : World) (h : IsR w base br st) :
    Calls Tryz.prog 50 #[.pointer (some ⟨br, 0, none⟩), .int .i64 size] w fun e w' => e = .returned (.int .u64 0) ∧ RStep w w' base br none := by
  unfold rSize at hs
  simp only [Bool.or_eq_false_iff, beq_eq_false_iff_ne] at hs
  obtain ⟨⟨⟨s1, s2⟩, s4⟩, s8⟩ := hs
  have HFL := Lib.hid (rfail_any base br st w h)
  go_enter Tryz.func50, Tryz.ntmps50
  go_wp2_with fail
  refine HFL.out.mono ?_
  rintro e w1 ⟨rfl, hr⟩
  have HR := Lib.hid hr; clear hr
  go_wp2
  go_ret
  exact ⟨rfl, HR.out⟩

set_option maxRecDepth 4000 in
set_option maxHeartbeats 1000000 in
theorem rnumber_fit (base br : Nat) (st : Option (List UInt8)) (k : Nat) (hk : k = 1 ∨ k = 2 ∨ k = 4 ∨ k = 8) (w : World) (h : IsR w base br st) :
    Calls Tryz.prog 50 #[.pointer (some ⟨br, 0, none⟩), .int .i64 (k : Int)] w fun e w' => e = .returned (.int .u64 (beVal (rBy st (k : Int)) : Int)) ∧ RStep w w' base br (rRest st (k : Int)) := by
  have HBY := Lib.hid (rbytes_any base br st (k : Int) (by omega) w h)
  have hle := rBy_le st k
  generalize rBy st (k : Int) = x at *
  have HLX := Lib.hid (rfl : x.length = x.length)
  generalize hm : x.length = m at *
  have HM := Lib.hid hm; clear hm HLX
  rcases hk with rfl | rfl | rfl | rfl
  all_goals
    go_enter Tryz.func50, Tryz.ntmps50
    go_wp2_with fail
    refine HBY.out.mono ?_
    rintro e w1 ⟨v, rfl, hown, hr⟩
    obtain ⟨q, c, rfl⟩ := own_form hown
    have HO := Lib.hid hown
    have HR := Lib.hid hr
    clear hown hr
    go_wp2_with fail
    go_loopw [4, 17] (fun a n wr => wr = w1 ∧ ∃ i : Nat, i ≤ m ∧ n = .int .i64 (i : Int) ∧ a = .int .u64 (beVal (x.take i) : Int)) (fun _ n _ => m - (intOf n).toNat)
    case atStart => exact ⟨rfl, 0, Nat.zero_le _, rfl, rfl⟩
    case round =>
      obtain ⟨rfl, i, hi, rfl, rfl⟩ := hrel
      by_cases him : i < m
      · obtain ⟨b, hb⟩ : ∃ b, x[i]? = some b := ⟨_, List.getElem?_eq_getElem (by have := HM.out; omega)⟩
        obtain ⟨g, rfl⟩ : ∃ g, q = some ⟨g, 0, none⟩ := by
          rcases HO.out.2 with ⟨h, h0⟩ | ⟨g, c, cur, h, _⟩
          · omega
          · injection h with h; exact ⟨g, h⟩
        have hcell : wr.cell? ⟨g, i, none⟩ = some (.int .u8 (b.toNat : Int)) := by rw [HO.out.cellAt i (by omega), bytesV_at, hb]; rfl
        obtain ⟨t1, t2⟩ := beVal_step hb (by omega)
        have t3 := b.toNat_lt
        have HT := Lib.hid t2
        generalize beVal (x.take i) = V at *
        clear hb t2
        generalize b.toNat = bb at *
        go_wp2
        go_roundw
        case rel => exact ⟨trivial, i + 1, by omega, by go_num, by rw [or_step V bb t1 t3, HT.out]⟩
        case measure => simp [intOf]; omega
      · obtain rfl : i = m := by omega
        have HTK : Hid (x.take i = x) := Lib.hid (List.take_of_length_le (by have := HM.out; omega))
        rw [HTK.out]
        go_wp2
        go_ret
        exact ⟨rfl, HR.out⟩
end Go.Proofs.YtbmphlpmipkpcaaGreat
