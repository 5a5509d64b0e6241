/- Contracts of package posting: of, look, fits, out. -/
import Derived.Test.YtadabjkhiaidcaaDsl6
import Derived.Test.YtadabjkhiaidcaaDsl37

set_option linter.unusedSimpArgs false
set_option linter.unusedVariables false
namespace Go.Proofs.Ytadabjkhiaidcaa
open Go.RowKit

theorem ret_strings {a b c d : ByteArray} (h : a = b) (h' : c = d) : Ending.returned (.tuple #[.string a, .string c]) = .returned (.tuple #[.string b, .string d]) := by rw [h, h']

def Str (l : List UInt8) : ByteArray := ⟨l.toArray⟩
theorem Str_toList (l : List UInt8) : (Str l).data.toList = l := by simp [Str]
theorem Str_size (l : List UInt8) : (Str l).size = l.length := by simp [Str, ByteArray.size]

end Go.Proofs.Ytadabjkhiaidcaa
