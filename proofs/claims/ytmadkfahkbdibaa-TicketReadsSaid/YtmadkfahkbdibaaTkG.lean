/- Contract: which status leads to which (status.Leads). -/
import Derived.Test.YtmadkfahkbdibaaTkB
set_option linter.unusedVariables false
set_option linter.unusedSimpArgs false
namespace Go.Proofs.Ytmadkfahkbdibaa
open Go.RowKit

theorem bits_one (a : Int) : Tkt.bitsI a = 996 ∨ Tkt.bitsI a = 10 ∨ Tkt.bitsI a = 20 ∨ Tkt.bitsI a = 66 ∨ Tkt.bitsI a = 18 ∨ Tkt.bitsI a = 0 := by
  unfold Tkt.bitsI
  repeat' split
  all_goals simp
set_option maxRecDepth 4000 in
set_option maxHeartbeats 4000000 in
theorem leads_any (a b : Int) (w : World) : Calls Try.prog 52 #[.int .i64 a, .int .i64 b] w fun e w' => e = .returned (.bool (Tkt.leadsB a b)) ∧ w = w' := by
  have HM := Lib.hid (statusMay_any b w)
  have HB := Lib.hid (bits_any a w)
  by_cases hs : Tkt.stB b = true
  · have hb : 1 ≤ b ∧ b ≤ 9 := by unfold Tkt.stB at hs; simpa using hs
    have hl : Tkt.leadsB a b = decide (Tkt.bitsI a / 2 ^ b.toNat % 2 = 1) := by unfold Tkt.leadsB; rw [hs, Bool.true_and]
    rw [hl]
    rw [hs] at HM
    have hv := bits_one a
    generalize Tkt.bitsI a = v at *
    clear hl hs
    have hb9 : b = 1 ∨ b = 2 ∨ b = 3 ∨ b = 4 ∨ b = 5 ∨ b = 6 ∨ b = 7 ∨ b = 8 ∨ b = 9 := by omega
    clear hb
    rcases hv with rfl | rfl | rfl | rfl | rfl | rfl <;> rcases hb9 with rfl | rfl | rfl | rfl | rfl | rfl | rfl | rfl | rfl <;>
      (go_enter Try.func52, Try.ntmps52
       go_wp2_with (first | (go_at_call 115; refine HM.out.mono ?_; rintro e w' ⟨rfl, rfl⟩) | (go_at_call 116; refine HB.out.mono ?_; rintro e w' ⟨rfl, rfl⟩))
       go_ret
       exact ⟨ret_bool (by decide), rfl⟩)
  · have hs' : Tkt.stB b = false := by simpa using hs
    have hl : Tkt.leadsB a b = false := by unfold Tkt.leadsB; rw [hs', Bool.false_and]
    rw [hl]
    rw [hs'] at HM
    clear hs hs' hl
    go_enter Try.func52, Try.ntmps52
    go_wp2_with (first | (go_at_call 115; refine HM.out.mono ?_; rintro e w' ⟨rfl, rfl⟩))
    go_ret
    exact ⟨rfl, rfl⟩
end Go.Proofs.Ytmadkfahkbdibaa
