/- Contracts: the reference's Same of a list and itself, and its Sort. -/
import Derived.Test.YtolfekbhlfjniaaSrtJ
set_option linter.unusedVariables false
set_option linter.unusedSimpArgs false
namespace Go.Proofs.Ytolfekbhlfjniaa
open Go.RowKit
attribute [local go_sem ↓] post_execLoad post_execStore
attribute [local go_sem] post_load post_store loL_drew okL_drew there_sc World.there_drew

set_option maxRecDepth 4000 in
theorem eqInP (x : Pst) (w : World) : (Op.equalIn 10000 38 (.agg x.cells.toArray) (.agg x.cells.toArray)).run Try.prog w = .ok true w := by
  have hS : Try.prog.underlying 38 = some (.struct (Try.prog.fieldsOf 38)) := by kernel_rfl
  have hp : Try.prog.stoodInHeld 38 = false := by kernel_rfl
  unfold Pst.cells
  rw [show (10000 : Nat) = 9999 + 1 from rfl, run_equalIn_agg w 9999 38 _ _ hS hp]
  simp only [Program.fieldsOf, Try.underlying38]
  go_simp
theorem guardPn (x y : Operand) (xs ys : Array Value) (w : World) : (eqGuard .neq 38 x y (.agg xs) (.agg ys)).run Try.prog w = .ok () w := run_eqGuard_agg w _ _ _ _ _ _ (by kernel_rfl)

set_option maxRecDepth 4000 in
set_option maxHeartbeats 400000 in
theorem rSame_any (l : List Pst) (p p' : Option Addr) (n cap cap' : Nat) (w : World) (hs : LS Pst.cells 10 w (.slice p n cap) l) (hs' : LS Pst.cells 10 w (.slice p' n cap') l) :
    Calls Try.prog 12 #[.slice p n cap, .slice p' n cap'] w fun e w' => e = .returned (.bool true) ∧ Below w.heap.size w w' := by
  have HL := Lib.hid hs.length
  have HS := Lib.hid hs; have HS' := Lib.hid hs'
  have hmax : n ≤ 9223372036854775807 := by have h1 := HL.out.2.1; have h2 := HL.out.2.2; simp only [maxLen] at h2; omega
  clear hs hs'
  go_enter Try.func12, Try.ntmps12
  go_wp2
  go_loopw [5] (fun i wr => ∃ k : Nat, k ≤ n ∧ i = .int .i64 k ∧ Below w.heap.size w wr) (fun i _ => n - (intOf i).toNat)
  case atStart => exact ⟨0, Nat.zero_le _, rfl, Below.refl _ _⟩
  case round =>
    obtain ⟨k, hk, rfl, hbw⟩ := hrel
    have HBW := Lib.hid hbw
    by_cases hlt : k < n
    · obtain ⟨x, hx⟩ : ∃ x, l[k]? = some x := ⟨_, List.getElem?_eq_getElem (by have := HL.out.1; omega)⟩
      obtain ⟨b, o, rfl, hb, hr⟩ := (HS.out.below hbw).at hx
      obtain ⟨b', o', rfl, hb', hr'⟩ := (HS'.out.below hbw).at hx
      obtain ⟨f1, f2⟩ := loL_of hr (Pst.cells_length x)
      obtain ⟨f3, f4⟩ := loL_of hr' (Pst.cells_length x)
      have hE := fun W => eqInP x W
      have hG := guardPn
      generalize x.cells = cx at *
      clear hx hr hr' hbw
      go_wp2_with fail
      go_region
      go_wp2
      go_roundw
      case rel => exact ⟨k + 1, by omega, by go_num, HBW.out.drew⟩
      case measure => simp [intOf]; omega
    · obtain rfl : k = n := by omega
      go_wp2
      go_ret
      exact ⟨rfl, HBW.out⟩

theorem ahead_cells (x y : Pst) (w : World) : Calls Try.prog 102 #[.agg x.cells.toArray, .agg y.cells.toArray] w fun e w' => e = .returned (.bool (lessP x y)) ∧ Below w.heap.size w w' := ahead_any x y w
theorem less_key {x y : Pst} (hx : x.wf) (hy : y.wf) : lessP x y = true ↔ keyP x < keyP y := by
  rw [← ord_key hx hy, ← ord_less x y]
  simp
end Go.Proofs.Ytolfekbhlfjniaa
