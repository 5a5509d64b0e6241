/- Plain definitions and facts on ticket numbers; no program in sight. -/
import GoSem.Core.Value
import Derived.Test.YtajpggnmhkpbkaaDec
namespace Go.Proofs.Ytajpggnmhkpbkaa.Num

def check (n : Int) : Int := if n < 1000000000000 ∨ 9999999999999 < n then 2 else if n / 10 % 7 = n % 10 then 0 else 11
def mayC (c : Int) : Bool := decide (100 ≤ c) && decide (c ≤ 999)
def mayS (s : Int) : Bool := decide (0 ≤ s) && decide (s ≤ 999999999)
def body (c s : Int) : Int := c * 1000000000 + s
def make (c s : Int) : Int := 10 * body c s + body c s % 7

def mkN (c s : Int) : Int := if (mayC c && mayS s) = true then make c s else 0
def mkE (c s : Int) : Int := if (mayC c && mayS s) = true then 0 else 2
def carr (n : Int) : Int := if check n = 0 then n / 10 / 1000000000 else 0
def seri (n : Int) : Int := if check n = 0 then n / 10 % 1000000000 else 0

theorem mayC_iff {c : Int} : mayC c = true ↔ 100 ≤ c ∧ c ≤ 999 := by unfold mayC; simp
theorem mayS_iff {c : Int} : mayS c = true ↔ 0 ≤ c ∧ c ≤ 999999999 := by unfold mayS; simp

def locByte (c : UInt8) : Bool := (65 ≤ c.toNat && c.toNat ≤ 90) || (50 ≤ c.toNat && c.toNat ≤ 57)
def loc (l : List UInt8) : Bool := l.all locByte && decide (l.length = 6)

theorem locByte_yes {c : UInt8} (h : (65 ≤ (c.toNat : Int) ∧ (c.toNat : Int) ≤ 90) ∨ (50 ≤ (c.toNat : Int) ∧ (c.toNat : Int) ≤ 57)) : locByte c = true := by
  unfold locByte; simp; omega
theorem locByte_no {c : UInt8} (h : ¬ ((65 ≤ (c.toNat : Int) ∧ (c.toNat : Int) ≤ 90) ∨ (50 ≤ (c.toNat : Int) ∧ (c.toNat : Int) ≤ 57))) : locByte c = false := by
  unfold locByte; rw [Bool.eq_false_iff]; simp; omega

/-- the text of a carrier and a serial that may be -/
def textOf (c s : Nat) : List UInt8 := (Dec.text c 3 ++ Dec.text s 9) ++ [Dec.dig ((c * 1000000000 + s) % 7)]
/-- what a text's digits are: an error's number -/
def ofE (l : List UInt8) : Int := if l.length = 13 ∧ l.all Dec.isDig = true then check (Dec.val l) else 4
def ofN (l : List UInt8) : Int := if ofE l = 0 then (Dec.val l : Int) else 0

theorem check_zero {n : Int} (h : check n = 0) : 1000000000000 ≤ n ∧ n ≤ 9999999999999 ∧ n / 10 % 7 = n % 10 := by
  unfold check at h
  split at h
  · omega
  · split at h
    · omega
    · omega
def mayStock (c f n : Int) : Bool := mayC c && mayS f && decide (1 ≤ n) && decide (n ≤ 1000000000 - f)
def inStock (c f n m : Int) : Bool := mayStock c f n && decide (carr m = c) && decide (f ≤ seri m) && decide (seri m < f + n)
theorem mayStock_iff {c f n : Int} : mayStock c f n = true ↔ (100 ≤ c ∧ c ≤ 999) ∧ (0 ≤ f ∧ f ≤ 999999999) ∧ 1 ≤ n ∧ n ≤ 1000000000 - f := by
  unfold mayStock; simp [mayC_iff, mayS_iff]; omega
theorem seri_bound (n : Int) : 0 ≤ seri n ∧ seri n ≤ 999999999 := by
  unfold seri; split <;> omega
theorem carr_bound (n : Int) : 0 ≤ carr n ∧ carr n ≤ 999 := by
  unfold carr; split
  · rename_i h; have := check_zero h; omega
  · omega
theorem textOf_length (c s : Nat) : (textOf c s).length = 13 := by simp [textOf, Dec.text_length]
theorem textOf_all (c s : Nat) : (textOf c s).all Dec.isDig = true := by simp [textOf, Dec.text_all, Dec.dig_isDig]
theorem half_val (c s : Nat) (hc : c ≤ 999) (hs : s ≤ 999999999) : Dec.val (Dec.text c 3 ++ Dec.text s 9) = c * 1000000000 + s := by
  rw [Dec.val_append, Dec.text_val, Dec.text_val, Dec.text_length]
  have e1 : c % 10 ^ 3 = c := Nat.mod_eq_of_lt (by omega)
  have e2 : s % 10 ^ 9 = s := Nat.mod_eq_of_lt (by omega)
  rw [e1, e2]
theorem textOf_val (c s : Nat) (hc : c ≤ 999) (hs : s ≤ 999999999) : Dec.val (textOf c s) = 10 * (c * 1000000000 + s) + (c * 1000000000 + s) % 7 := by
  unfold textOf
  rw [Dec.val_snoc, half_val c s hc hs, Dec.dval_dig]
  omega
theorem make_val (c s : Nat) (hc : c ≤ 999) (hs : s ≤ 999999999) : (Dec.val (textOf c s) : Int) = make c s := by
  rw [textOf_val c s hc hs]; unfold make body; omega
theorem make_parts (B : Int) (_h : 0 ≤ B) : (10 * B + B % 7) / 10 = B ∧ (10 * B + B % 7) % 10 = B % 7 := by omega
theorem make_check (c s : Int) (hc : mayC c = true) (hs : mayS s = true) : check (make c s) = 0 ∧ carr (make c s) = c ∧ seri (make c s) = s := by
  have bc := mayC_iff.1 hc
  have bs := mayS_iff.1 hs
  obtain ⟨e1, e2⟩ := make_parts (c * 1000000000 + s) (by omega)
  have h0 : check (make c s) = 0 := by unfold check make body; rw [if_neg (by omega), e1, e2, if_pos rfl]
  refine ⟨h0, ?_, ?_⟩
  · unfold carr; rw [if_pos h0]; unfold make body; rw [e1]; omega
  · unfold seri; rw [if_pos h0]; unfold make body; rw [e1]; omega
theorem make_bound (c s : Int) (hc : mayC c = true) (hs : mayS s = true) : 0 ≤ make c s ∧ make c s ≤ 9999999999999 := by
  have bc := mayC_iff.1 hc
  have bs := mayS_iff.1 hs
  unfold make body; omega
theorem digits13 {n : Nat} (h0 : 1000000000000 ≤ n) (h1 : n ≤ 9999999999999) : (Dec.digits n).length = 13 := by
  have a := Dec.digits_length_le n 12 (by omega)
  have b := Dec.digits_length_ge n 12 (by omega)
  omega
theorem digits_text {n : Nat} (h0 : 1000000000000 ≤ n) (h1 : n ≤ 9999999999999) : Dec.digits n = Dec.text n 13 := by
  rw [Dec.digits_eq_text, digits13 h0 h1]
/-- the reference's check by a number's digits is the program's by its bounds -/
theorem ofE_digits (n : Nat) : ofE (Dec.digits n) = if (Dec.digits n).length = 13 then check n else 4 := by
  unfold ofE
  rw [Dec.digits_val]
  simp [Dec.digits_all]
theorem check_far (n : Nat) (h : (Dec.digits n).length ≠ 13) : check n = 2 := by
  unfold check
  rw [if_pos]
  by_cases a : n < 1000000000000
  · omega
  · by_cases b : 9999999999999 < n
    · omega
    · exact absurd (digits13 (by omega) (by omega)) h
theorem check_ne4 (n : Int) : check n ≠ 4 := by unfold check; split <;> (try split) <;> omega

end Go.Proofs.Ytajpggnmhkpbkaa.Num
