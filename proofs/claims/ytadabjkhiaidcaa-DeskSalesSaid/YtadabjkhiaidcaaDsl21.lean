/- Contracts: the reference's status (12): May, Letter, Leads, Last. Contracts: the reference's small functions of chapter 13: Numbered, some, day, MayWith, mayCoupon. Contract: may a coupon be (the reference's mayCoupon, 13). -/
import Derived.Test.YtadabjkhiaidcaaDsl20
import Derived.Deep.RegionWith

section
set_option linter.unusedVariables false
set_option linter.unusedSimpArgs false
namespace Go.Proofs.Ytadabjkhiaidcaa
open Go.RowKit

namespace Tkt
def rowsL : List ByteArray := [⟨#[79, 67, 69, 82, 86, 83, 65]⟩, ⟨#[67, 79, 76]⟩, ⟨#[76, 67, 70]⟩, ⟨#[70]⟩, ⟨#[69]⟩, ⟨#[82]⟩, ⟨#[86]⟩, ⟨#[83, 79, 82]⟩, ⟨#[65, 79, 70]⟩]
def rowS (k : Nat) : ByteArray := rowsL.getD k ⟨#[]⟩
def hasB (a b : Nat) : Bool := (List.range 7).any fun j => decide (1 ≤ j) && decide (j < (rowS a).size) && (((rowS a).extract j (j + 1)).data.toList == ((rowS b).extract 0 1).data.toList)
theorem leads_has : ∀ a : Fin 9, ∀ b : Fin 9, leadsB (((a : Nat) : Int) + 1) (((b : Nat) : Int) + 1) = hasB a b := by decide +kernel
theorem row_size : ∀ a : Fin 9, 1 ≤ (rowS a).size ∧ (rowS a).size ≤ 7 := by decide +kernel
theorem last_has : ∀ a : Fin 9, lastB (((a : Nat) : Int) + 1) = decide ((rowS a).size = 1) := by decide +kernel
def rowsA : Array Value := (rowsL.map Value.string).toArray
theorem rowsA_at (k : Nat) (h : k < 9) : rowsA[k]? = some (.string (rowS k)) := by
  unfold rowsA rowS
  rw [List.getElem?_toArray, List.getElem?_map, List.getD_eq_getElem?_getD, List.getElem?_eq_getElem (by simpa [rowsL] using h)]
  rfl
end Tkt
end Go.Proofs.Ytadabjkhiaidcaa
end

section
set_option linter.unusedVariables false
set_option linter.unusedSimpArgs false
namespace Go.Proofs.Ytadabjkhiaidcaa
open Go.RowKit

theorem rnumbered_any (n : Int) (hn : U64 n) (w : World) : Calls Try.prog 65 #[.int .u64 n] w fun e w' => e = .returned (.bool (Tkt.numB n)) ∧ Below w.heap.size w w' := by
  have HC := Lib.hid (rCheck_any n hn.1 hn.2 w)
  clear hn
  go_enter Try.func65, Try.ntmps65
  go_wp2_with (go_at_call 92; refine HC.out.mono ?_; rintro e w' ⟨rfl, hb⟩; have HB := Lib.hid hb; clear hb)
  go_ret
  exact ⟨ret_bool (by first | rfl | (unfold Tkt.numB; simp)), HB.out⟩
end Go.Proofs.Ytadabjkhiaidcaa
end

section
set_option linter.unusedVariables false
set_option linter.unusedSimpArgs false
namespace Go.Proofs.Ytadabjkhiaidcaa
open Go.RowKit

theorem cpn_neg {num : Int} {y : Cpn} (h : y.ho < 0) : Tkt.cpnB num y = false := by
  unfold Tkt.cpnB Tkt.holdB
  have h1 : decide (101 ≤ y.ho) = false := decide_eq_false (by omega)
  have h2 : decide (y.ho = 0) = false := decide_eq_false (by omega)
  rw [h1, h2]
  simp
end Go.Proofs.Ytadabjkhiaidcaa
end
