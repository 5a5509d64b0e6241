/- Contracts: how a ticket's parts are put: amounts, statuses, texts, lists. -/
import Derived.Test.YtadabjkhiaidcaaDsl13

set_option linter.unusedVariables false
set_option linter.unusedSimpArgs false
namespace Go.Proofs.Ytadabjkhiaidcaa
open Go.RowKit

/-- a place of a number -/
structure Pn where
  b : Nat
  o : Nat
  N : Nat
def ptrs (ns : List Pn) : Array Value := (ns.map fun p => Value.pointer (some ⟨p.b, p.o, none⟩)).toArray
def numsB (ns : List Pn) : List UInt8 := ns.flatMap fun p => Wire.be p.N 8
end Go.Proofs.Ytadabjkhiaidcaa
