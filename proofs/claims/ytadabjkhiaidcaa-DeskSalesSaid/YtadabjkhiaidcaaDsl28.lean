/- Contracts of package wire's Reader: Bytes of whatever number, Number, Int, Flag, Blob, Text, Count. Contracts of package wire's Reader: Number of any size, Int, Flag, Blob, Text, Count. What a part that was taken off a reader leaves: the reader, and the place where it was put. -/
import Derived.Test.YtadabjkhiaidcaaDsl27
import Derived.Laws.BitsAllLaws
import Derived.Test.YtadabjkhiaidcaaDsl3

section
set_option linter.unusedVariables false
set_option linter.unusedSimpArgs false
namespace Go.Proofs.Ytadabjkhiaidcaa
open Go.RowKit

/-- what Bytes tells -/
def rBy (st : Option (List UInt8)) (n : Int) : List UInt8 := (rTake st n).getD []
theorem rBy_none (n : Int) : rBy none n = [] := rfl
theorem rTake_bad {st : Option (List UInt8)} {n : Int} (h : ∀ l, st = some l → ¬ (0 ≤ n ∧ n ≤ l.length)) : rTake st n = none ∧ rRest st n = none := by
  cases st with
  | none => exact ⟨rfl, rfl⟩
  | some l => exact ⟨if_neg (h l rfl), if_neg (h l rfl)⟩
theorem rTake_fit {l : List UInt8} {n : Nat} (h : n ≤ l.length) : rTake (some l) (n : Int) = some (l.take n) ∧ rRest (some l) (n : Int) = some (l.drop n) := by
  constructor
  · show (if 0 ≤ (n : Int) ∧ (n : Int) ≤ l.length then some (l.take (n : Int).toNat) else none) = _
    rw [if_pos ⟨by omega, by omega⟩, Int.toNat_natCast]
  · show (if 0 ≤ (n : Int) ∧ (n : Int) ≤ l.length then some (l.drop (n : Int).toNat) else none) = _
    rw [if_pos ⟨by omega, by omega⟩, Int.toNat_natCast]

def beVal (l : List UInt8) : Nat := l.foldl (fun n b => n * 256 + b.toNat) 0
def rSize (size : Int) : Bool := size == 1 || size == 2 || size == 4 || size == 8
def rNumV (st : Option (List UInt8)) (size : Int) : Nat := if rSize size then beVal (rBy st size) else 0
def rNumS (st : Option (List UInt8)) (size : Int) : Option (List UInt8) := if rSize size then rRest st size else none
theorem beVal_snoc (l : List UInt8) (b : UInt8) : beVal (l ++ [b]) = beVal l * 256 + b.toNat := by unfold beVal; rw [List.foldl_append]; rfl
theorem beVal_lt (n : Nat) : ∀ l : List UInt8, l.length = n → beVal l < 256 ^ n := by
  induction n with
  | zero => intro l h; rw [List.eq_nil_of_length_eq_zero h]; decide
  | succ n ih =>
    intro l h
    have hne : l ≠ [] := fun e => by rw [e] at h; simp at h
    have h1 := ih l.dropLast (by rw [List.length_dropLast, h]; rfl)
    have h2 := (l.getLast hne).toNat_lt
    rw [← List.dropLast_concat_getLast hne, beVal_snoc, Nat.pow_succ]
    omega
theorem beVal_step {x : List UInt8} {i : Nat} {b : UInt8} (h : x[i]? = some b) (hi : i < 8) : beVal (x.take i) < 72057594037927936 ∧ beVal (x.take (i + 1)) = beVal (x.take i) * 256 + b.toNat := by
  have hl := (List.getElem?_eq_some_iff.1 h).1
  constructor
  · have h1 := beVal_lt i (x.take i) (by rw [List.length_take]; omega)
    have h2 : 256 ^ i ≤ 256 ^ 7 := Nat.pow_le_pow_right (by decide) (by omega)
    omega
  · rw [List.take_add_one, h]
    exact beVal_snoc _ _
theorem or_step (V b : Nat) (hV : V < 72057594037927936) (hb : b < 2 ^ 8) : bits .or .u64 ((V : Int) * 256) (b : Int) = ((V * 256 + b : Nat) : Int) := by
  have e : ((V : Int) * 256) = ((V * 256 : Nat) : Int) := by omega
  rw [e, u64_or_nat (V * 256) b (by omega) (by omega)]
  congr 1
  rw [show V * 256 = V <<< 8 from by rw [Nat.shiftLeft_eq], ← Nat.shiftLeft_add_eq_or_of_lt hb]
theorem rBy_le (st : Option (List UInt8)) (k : Nat) : (rBy st (k : Int)).length ≤ k := by
  unfold rBy rTake
  cases st with
  | none => exact Nat.zero_le _
  | some l => dsimp only; split <;> simp; omega

end Go.Proofs.Ytadabjkhiaidcaa
end

section
set_option linter.unusedVariables false
set_option linter.unusedSimpArgs false
namespace Go.Proofs.Ytadabjkhiaidcaa
open Go.RowKit

theorem own_mono {w : World} {base base' : Nat} {e : TypeId} {n : Nat} {v : Value} {xs : List Value} (h : w.ownsRow base e 1 v n xs) (hb : base' ≤ base) : w.ownsRow base' e 1 v n xs := by
  obtain ⟨hl, hor⟩ := h
  refine ⟨hl, ?_⟩
  rcases hor with h | ⟨g', cap', cur, e, hg, h4⟩
  · exact .inl h
  · exact .inr ⟨g', cap', cur, e, Nat.le_trans hb hg, h4⟩
theorem rNumV_lt (st : Option (List UInt8)) (k : Nat) : rNumV st (k : Int) < 256 ^ k := by
  unfold rNumV
  split
  · have h1 := beVal_lt _ (rBy st (k : Int)) rfl
    exact Nat.lt_of_lt_of_le h1 (Nat.pow_le_pow_right (by decide) (rBy_le st k))
  · exact Nat.pow_pos (by decide)

/-- what Blob tells, and leaves -/
def rBlobV (st : Option (List UInt8)) : List UInt8 := if rNumV st 4 > 16777216 then [] else rBy (rNumS st 4) (rNumV st 4 : Nat)
def rBlobS (st : Option (List UInt8)) : Option (List UInt8) := if rNumV st 4 > 16777216 then none else rRest (rNumS st 4) (rNumV st 4 : Nat)

end Go.Proofs.Ytadabjkhiaidcaa
end

section
set_option linter.unusedVariables false
set_option linter.unusedSimpArgs false
namespace Go.Proofs.Ytadabjkhiaidcaa
open Go.RowKit

end Go.Proofs.Ytadabjkhiaidcaa
end
