/- Contracts: digits and decimals of package wire and of the reference. -/
import Derived.Test.YthpcillamglmiaaNumC
import Derived.Test.YthpcillamglmiaaWDecP
set_option linter.unusedSimpArgs false
set_option linter.unusedVariables false
namespace Go.Proofs.Ythpcillamglmiaa
open Go.RowKit

def digV (c base : Int) : Int :=
  if 48 ≤ c ∧ c ≤ 57 then (if base ≤ c - 48 then -1 else c - 48) else if 97 ≤ c ∧ c ≤ 102 then (if base ≤ c - 87 then -1 else c - 87) else -1

theorem two_ret {P : Program} {a b c d : Int} {k k' : IntKind} (h1 : a = b) (h2 : c = d) : Ending.returned (.tuple #[.int k a, .int k' c]) = .returned (.tuple #[.int k b, .int k' d]) := by rw [h1, h2]