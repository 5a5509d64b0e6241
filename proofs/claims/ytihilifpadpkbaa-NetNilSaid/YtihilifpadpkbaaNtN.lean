/- What a net that is not there, and a zero one, answer. -/
import Derived.Test.YtihilifpadpkbaaNtK
set_option linter.unusedVariables false
set_option linter.unusedSimpArgs false
namespace Go.Proofs.Ytihilifpadpkbaa
open Go.RowKit

/-- there is no net at v -/
def NoT (w : World) (v : Value) : Prop := Calls Try.prog 27 #[v] w fun e w' => e = .returned (.bool false) ∧ w = w'
theorem no_nil (w : World) : NoT w (.pointer none) := by
  unfold NoT
  go_enter Try.func27, Try.ntmps27
  go_wp2
  go_ret
  exact ⟨rfl, rfl⟩
theorem no_zero {w : World} {g : Nat} (h : w.heap[g]? = some (.cells #[.int .i64 0, .bool false, .slice none 0 0] 64 (0, 0))) : NoT w (.pointer (some ⟨g, 0, none⟩)) := by
  unfold NoT
  have c0 : w.cell? ⟨g, 0, none⟩ = some (.int .i64 0) := cell_of_row w g 0 _ _ _ h
  clear h
  go_enter Try.func27, Try.ntmps27
  go_wp2
  go_ret
  exact ⟨rfl, rfl⟩

set_option maxHeartbeats 1000000 in
theorem no_send (w : World) (v : Value) (l : Value) (h : NoT w v) : Calls Try.prog 11 #[v, l] w fun e w' => e = .returned (.int .i64 1) ∧ w = w' := by
  go_enter Try.func11, Try.ntmps11
  go_wp2_with (go_at_call 27; refine (h).mono ?_; rintro e w' ⟨rfl, rfl⟩)
  go_ret
  exact ⟨rfl, rfl⟩

set_option maxHeartbeats 1000000 in
theorem no_tick (w : World) (v : Value) (l : Value) (h : NoT w v) : Calls Try.prog 13 #[v, l] w fun e w' => e = .returned (.slice none 0 0) ∧ w = w' := by
  go_enter Try.func13, Try.ntmps13
  go_wp2_with (go_at_call 27; refine (h).mono ?_; rintro e w' ⟨rfl, rfl⟩)
  go_ret
  exact ⟨rfl, rfl⟩

set_option maxHeartbeats 1000000 in
theorem no_calm (w : World) (v : Value) (b : Bool) (h : NoT w v) : Calls Try.prog 12 #[v, .bool b] w fun e w' => e = .returned (.tuple #[]) ∧ w = w' := by
  go_enter Try.func12, Try.ntmps12
  go_wp2_with (go_at_call 27; refine (h).mono ?_; rintro e w' ⟨rfl, rfl⟩)
  go_end0
  exact ⟨rfl, rfl⟩

set_option maxHeartbeats 1000000 in
theorem no_iscalm (w : World) (v : Value) (h : NoT w v) : Calls Try.prog 24 #[v] w fun e w' => e = .returned (.bool false) ∧ w = w' := by
  go_enter Try.func24, Try.ntmps24
  go_wp2_with (go_at_call 27; refine (h).mono ?_; rintro e w' ⟨rfl, rfl⟩)
  go_ret
  exact ⟨rfl, rfl⟩

set_option maxHeartbeats 1000000 in
theorem no_hold (w : World) (v : Value) (h : NoT w v) : Calls Try.prog 25 #[v] w fun e w' => e = .returned (.int .i64 0) ∧ w = w' := by
  go_enter Try.func25, Try.ntmps25
  go_wp2_with (go_at_call 27; refine (h).mono ?_; rintro e w' ⟨rfl, rfl⟩)
  go_ret
  exact ⟨rfl, rfl⟩

set_option maxHeartbeats 1000000 in
theorem no_len (w : World) (v : Value) (h : NoT w v) : Calls Try.prog 14 #[v] w fun e w' => e = .returned (.int .i64 0) ∧ w = w' := by
  go_enter Try.func14, Try.ntmps14
  go_wp2_with (go_at_call 27; refine (h).mono ?_; rintro e w' ⟨rfl, rfl⟩)
  go_ret
  exact ⟨rfl, rfl⟩

set_option maxHeartbeats 1000000 in
theorem no_copy (w : World) (v : Value) (h : NoT w v) : Calls Try.prog 19 #[v] w fun e w' => e = .returned (.pointer none) ∧ w = w' := by
  go_enter Try.func19, Try.ntmps19
  go_wp2_with (go_at_call 27; refine (h).mono ?_; rintro e w' ⟨rfl, rfl⟩)
  go_ret
  exact ⟨rfl, rfl⟩

set_option maxHeartbeats 1000000 in
theorem no_waiting (w : World) (v : Value) (h : NoT w v) : Calls Try.prog 22 #[v] w fun e w' => e = .returned (.slice none 0 0) ∧ w = w' := by
  go_enter Try.func22, Try.ntmps22
  go_wp2_with (go_at_call 14; refine (no_len w v h).mono ?_; rintro e w' ⟨rfl, rfl⟩)
  go_loopw [3, 7] (fun ov i wr => ov = .slice none 0 0 ∧ i = .int .i64 0 ∧ wr = w) (fun _ _ _ => 0)
  case atStart => exact ⟨rfl, rfl, rfl⟩
  case round =>
    obtain ⟨rfl, rfl, rfl⟩ := hrel
    go_wp2
    go_ret
    exact ⟨rfl, rfl⟩

set_option maxHeartbeats 1000000 in
/-- one of them is not there -/
theorem same_ends (w : World) (v u : Value) (a b : Bool) (hv : Calls Try.prog 27 #[v] w fun e w' => e = .returned (.bool a) ∧ w = w') (hu : Calls Try.prog 27 #[u] w fun e w' => e = .returned (.bool b) ∧ w = w') (hab : (a && b) = false) :
    Calls Try.prog 21 #[v, u] w fun e w' => e = .returned (.bool (a == b)) ∧ w = w' := by
  have HV := Lib.hid hv; have HU := Lib.hid hu
  clear hv hu
  cases a <;> cases b
  · go_enter Try.func21, Try.ntmps21
    go_wp2_with (go_at_call 27; first | (with_reducible refine HV.out.mono ?_; rintro e w' ⟨rfl, rfl⟩) | (with_reducible refine HU.out.mono ?_; rintro e w' ⟨rfl, rfl⟩))
    go_ret
    exact ⟨rfl, rfl⟩
  · go_enter Try.func21, Try.ntmps21
    go_wp2_with (go_at_call 27; first | (with_reducible refine HV.out.mono ?_; rintro e w' ⟨rfl, rfl⟩) | (with_reducible refine HU.out.mono ?_; rintro e w' ⟨rfl, rfl⟩))
    go_ret
    exact ⟨rfl, rfl⟩
  · go_enter Try.func21, Try.ntmps21
    go_wp2_with (go_at_call 27; first | (with_reducible refine HV.out.mono ?_; rintro e w' ⟨rfl, rfl⟩) | (with_reducible refine HU.out.mono ?_; rintro e w' ⟨rfl, rfl⟩))
    go_ret
    exact ⟨rfl, rfl⟩
  · cases hab
theorem same_ff (w : World) (v u : Value) (hv : NoT w v) (hu : NoT w u) : Calls Try.prog 21 #[v, u] w fun e w' => e = .returned (.bool true) ∧ w = w' := same_ends w v u false false hv hu rfl
theorem same_tf (w : World) (v u : Value) (hv : Calls Try.prog 27 #[v] w fun e w' => e = .returned (.bool true) ∧ w = w') (hu : NoT w u) : Calls Try.prog 21 #[v, u] w fun e w' => e = .returned (.bool false) ∧ w = w' := same_ends w v u true false hv hu rfl
theorem same_ft (w : World) (v u : Value) (hv : NoT w v) (hu : Calls Try.prog 27 #[u] w fun e w' => e = .returned (.bool true) ∧ w = w') : Calls Try.prog 21 #[v, u] w fun e w' => e = .returned (.bool false) ∧ w = w' := same_ends w v u false true hv hu rfl
end Go.Proofs.Ytihilifpadpkbaa
