/- Contracts: posting.Less, Same; the reference's Ahead. -/
import Derived.Test.YtellhmbebimenaaDoorPb25

set_option linter.unusedVariables false
set_option linter.unusedSimpArgs false
namespace Go.Proofs.YtellhmbebimenaaDoor
open Go.RowKit

set_option maxHeartbeats 400000 in
theorem less_any (x y : Pst) (w : World) : Calls Tryd.prog 163 #[.agg x.arr, .agg y.arr] w fun e w' => e = .returned (.bool (lessP x y)) ∧ Below w.heap.size w w' := by
  have HO := Lib.hid (fun W => order_any x y W)
  have HL : Hid (decide (ordI x y < 0) = lessP x y) := Lib.hid (ord_less x y)
  generalize ordI x y = o at *
  generalize lessP x y = q at *
  have HB0 := Lib.hid (fun o o' => ((Below.refl w.heap.size w).alloc (Nat.le_refl _) o).alloc (by simp) o')
  obtain ⟨d, t, s, k, a0, a1, a2, a3, a4, a5⟩ := x
  obtain ⟨d', t', s', k', b0, b1, b2, b3, b4, b5⟩ := y
  unfold Pst.arr at *
  simp only at HO ⊢
  go_enter Tryd.func163, Tryd.ntmps163
  go_wp2_with fail
  refine (HO.out _).mono ?_
  rintro e w1 ⟨rfl, hb1⟩
  have HB := Lib.hid ((HB0.out _ _).trans (hb1.mono (by simp; omega)))
  clear hb1
  go_wp2
  go_ret
  exact ⟨ret_bool HL.out, HB.out⟩

set_option maxHeartbeats 400000 in
theorem ahead_any (x y : Pst) (w : World) : Calls Tryd.prog 178 #[.agg x.arr, .agg y.arr] w fun e w' => e = .returned (.bool (lessP x y)) ∧ Below w.heap.size w w' := by
  obtain ⟨d, t, s, k, a0, a1, a2, a3, a4, a5⟩ := x
  obtain ⟨d', t', s', k', b0, b1, b2, b3, b4, b5⟩ := y
  have HL : Hid (∀ q, (t ≠ t' → q = decide (t < t')) → (t = t' → q = decide (s < s')) → q = lessP ⟨d, t, s, k, a0, a1, a2, a3, a4, a5⟩ ⟨d', t', s', k', b0, b1, b2, b3, b4, b5⟩) := Lib.hid (fun q h1 h2 => by
    unfold lessP
    by_cases h : t = t'
    · rw [h2 h]; simp [h]
    · rw [h1 h]; simp [h])
  generalize lessP ⟨d, t, s, k, a0, a1, a2, a3, a4, a5⟩ ⟨d', t', s', k', b0, b1, b2, b3, b4, b5⟩ = r at *
  unfold Pst.arr
  simp only
  have HB := Lib.hid (fun o o' => ((Below.refl w.heap.size w).alloc (Nat.le_refl _) o).alloc (by simp) o')
  by_cases h : t = t'
  · have HR := Lib.hid (HL.out _ (fun h' => absurd h h') (fun _ => rfl))
    subst h
    go_enter Tryd.func178, Tryd.ntmps178
    go_wp2
    go_ret
    exact ⟨ret_bool HR.out, HB.out _ _⟩
  · have HR := Lib.hid (HL.out _ (fun _ => rfl) (fun h' => absurd h' h))
    go_enter Tryd.func178, Tryd.ntmps178
    go_wp2
    go_ret
    exact ⟨ret_bool HR.out, HB.out _ _⟩
theorem eqAny (x y : Pst) : ∃ q : Bool, ∀ w : World, (binOp .eql 49 (.agg x.arr) (.agg y.arr)).run Tryd.prog w = .ok (.bool q) w := by
  refine ⟨(x.d == y.d && (x.t == y.t && (x.s == y.s && (x.k == y.k && (x.a0 == y.a0 && (x.a1 == y.a1 && (x.a2 == y.a2 && (x.a3 == y.a3 && (x.a4 == y.a4 && (x.a5 == y.a5)))))))))), fun w => ?_⟩
  have hS : Tryd.prog.underlying 49 = some (.struct (Tryd.prog.fieldsOf 49)) := by kernel_rfl
  have hp : Tryd.prog.stoodInHeld 49 = false := by kernel_rfl
  unfold Pst.arr
  rw [run_eql_struct, show (10000 : Nat) = 9999 + 1 from rfl, run_equalIn_agg w 9999 49 _ _ hS hp]
  simp only [Program.fieldsOf, Tryd.underlying49]
  go_simp
  repeat' split
  all_goals simp [*]
theorem guardPst' (x y : Operand) (xs ys : Array Value) (w : World) : (eqGuard .eql 49 x y (.agg xs) (.agg ys)).run Tryd.prog w = .ok () w := run_eqGuard_agg w _ _ _ _ _ _ (by kernel_rfl)
end Go.Proofs.YtellhmbebimenaaDoor
