/- Plain definitions and facts on ticket numbers; no program in sight. -/
import GoSem.Core.Value
namespace Go.Proofs.Ytmofcaclohnmmaa.Num

def check (n : Int) : Int := if n < 1000000000000 ∨ 9999999999999 < n then 2 else if n / 10 % 7 = n % 10 then 0 else 11
def mayC (c : Int) : Bool := decide (100 ≤ c) && decide (c ≤ 999)
def mayS (s : Int) : Bool := decide (0 ≤ s) && decide (s ≤ 999999999)
def body (c s : Int) : Int := c * 1000000000 + s
def make (c s : Int) : Int := 10 * body c s + body c s % 7

def mkN (c s : Int) : Int := if (mayC c && mayS s) = true then make c s else 0
def mkE (c s : Int) : Int := if (mayC c && mayS s) = true then 0 else 2
def carr (n : Int) : Int := if check n = 0 then n / 10 / 1000000000 else 0
def seri (n : Int) : Int := if check n = 0 then n / 10 % 1000000000 else 0

theorem mayC_iff {c : Int} : mayC c = true ↔ 100 ≤ c ∧ c ≤ 999 := by unfold mayC; simp
theorem mayS_iff {c : Int} : mayS c = true ↔ 0 ≤ c ∧ c ≤ 999999999 := by unfold mayS; simp

def locByte (c : UInt8) : Bool := (65 ≤ c.toNat && c.toNat ≤ 90) || (50 ≤ c.toNat && c.toNat ≤ 57)
def loc (l : List UInt8) : Bool := l.all locByte && decide (l.length = 6)

theorem locByte_yes {c : UInt8} (h : (65 ≤ (c.toNat : Int) ∧ (c.toNat : Int) ≤ 90) ∨ (50 ≤ (c.toNat : Int) ∧ (c.toNat : Int) ≤ 57)) : locByte c = true := by
  unfold locByte; simp; omega
theorem locByte_no {c : UInt8} (h : ¬ ((65 ≤ (c.toNat : Int) ∧ (c.toNat : Int) ≤ 90) ∨ (50 ≤ (c.toNat : Int) ∧ (c.toNat : Int) ≤ 57))) : locByte c = false := by
  unfold locByte; rw [Bool.eq_false_iff]; simp; omega

end Go.Proofs.Ytmofcaclohnmmaa.Num
