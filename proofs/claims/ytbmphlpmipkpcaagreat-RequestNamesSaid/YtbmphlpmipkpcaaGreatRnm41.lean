/- Contracts: digits and decimals of package wire and of the reference. -/
import Derived.Test.YtbmphlpmipkpcaaGreatRnm8
import Derived.Test.YtbmphlpmipkpcaaGreatRnm40

set_option linter.unusedSimpArgs false
set_option linter.unusedVariables false
namespace Go.Proofs.YtbmphlpmipkpcaaGreat
open Go.RowKit

def digV (c base : Int) : Int :=
  if 48 ≤ c ∧ c ≤ 57 then (if base ≤ c - 48 then -1 else c - 48) else if 97 ≤ c ∧ c ≤ 102 then (if base ≤ c - 87 then -1 else c - 87) else -1

theorem ret_boolD {a b : Bool} (h : a = b) : Ending.returned (.bool a) = .returned (.bool b) := by rw [h]
theorem str_lit (s : ByteArray) (l : List UInt8) : (s.toList == l) = decide (s.data.toList = l) := by
  rw [ByteArray.toList_eq, Bool.eq_iff_iff]; simp
theorem head_at (s : ByteArray) (h : 0 < s.size) : s.data.toList.getD 0 0 = s[0] := by
  have : s.data.toList[0]? = some s[0] := by rw [List.getElem?_eq_getElem (by simpa using h)]; rfl
  rw [List.getD_eq_getElem?_getD, this]; rfl

theorem two_ret {P : Program} {a b c d : Int} {k k' : IntKind} (h1 : a = b) (h2 : c = d) : Ending.returned (.tuple #[.int k a, .int k' c]) = .returned (.tuple #[.int k b, .int k' d]) := by rw [h1, h2]

theorem digV_dig {c : UInt8} (h : Dec.isDig c = true) : digV (c.toNat : Int) 10 = (Dec.dval c : Int) := by
  have := Dec.isDig_iff.1 h
  unfold digV Dec.dval
  rw [if_pos (by omega), if_neg (by omega)]; omega
theorem digV_not {c : Int} (h : ¬ (48 ≤ c ∧ c ≤ 57)) : digV c 10 = -1 := by
  unfold digV
  rw [if_neg h]
  split
  · rw [if_pos (by omega)]
  · rfl
theorem u64_wrap_lo (x : Int) : 0 ≤ IntKind.u64.wrap x := by rw [IntKind.wrap_u64]; omega
theorem u64_wrap_hi (x : Int) : IntKind.u64.wrap x ≤ 18446744073709551615 := by rw [IntKind.wrap_u64]; omega
/-- what the loop of Decimal knows behind k bytes -/
def DRel (l : List UInt8) (k : Nat) (nn : Int) (gg : Bool) : Prop :=
  l.all Dec.isDig = (l.drop k).all Dec.isDig ∧ 0 ≤ nn ∧ nn ≤ 18446744073709551615 ∧ (gg = true → 18446744073709551616 ≤ Dec.val (l.take k)) ∧ (gg = false → nn = (Dec.val (l.take k) : Int))

end Go.Proofs.YtbmphlpmipkpcaaGreat
