/- Contracts of package number's leaf functions: Check, mayCarrier, maySerial, Make. -/
import Derived.Test.YtihilifpadpkbaaRows
import Derived.Test.YtihilifpadpkbaaNumP
import Derived.WalkKit
import Derived.WalkSpells
import Derived.WalkLawsBesides
import Derived.Deep.QuietTactic
import Derived.BigQuiet
import Derived.Lib.Hide
namespace Go.Proofs.Ytihilifpadpkbaa
open Go.RowKit

theorem ret_int {k : IntKind} {a b : Int} (h : a = b) : Ending.returned (.int k a) = .returned (.int k b) := by rw [h]
theorem ret_bool {a b : Bool} (h : a = b) : Ending.returned (.bool a) = .returned (.bool b) := by rw [h]

set_option maxHeartbeats 400000 in
theorem check_any (n : Int) (h0 : 0 ≤ n) (hb : n ≤ 18446744073709551615) (w : World) :
    Calls Try.prog 67 #[.int .u64 n] w fun e w' => e = .returned (.int .i64 (Num.check n)) ∧ w = w' := by
  go_enter Try.func67, Try.ntmps67
  go_wp2
  all_goals
    go_ret
    refine ⟨ret_int ?_, rfl⟩
    unfold Num.check
    simp_all
    try omega

theorem ret_pair {k k' : IntKind} {a b c d : Int} (h : a = b) (h' : c = d) : Ending.returned (.tuple #[.int k a, .int k' c]) = .returned (.tuple #[.int k b, .int k' d]) := by rw [h, h']

end Go.Proofs.Ytihilifpadpkbaa
