/- Contract: the reference's Same (14) of a list and itself. -/
import Derived.Test.YtadabjkhiaidcaaDsl48

set_option linter.unusedVariables false
set_option linter.unusedSimpArgs false
namespace Go.Proofs.Ytadabjkhiaidcaa
open Go.RowKit
theorem post_execLoadD (ρ : Operand → Value) (dst : Option Tmp) (x : Operand) (ty : TypeId) (pos : String) (after : Array Edge) (guard : Option (Nat × Bool)) :
    execOp ρ { dst, op := .load 59 x, type := ty, pos, after, guard } = recLoad 59 (ρ x) := rfl
theorem post_execStore (ρ : Operand → Value) (dst : Option Tmp) (x y : Operand) (ty : TypeId) (pos : String) (after : Array Edge) (guard : Option (Nat × Bool)) :
    execOp ρ { dst, op := .store 59 x y, type := ty, pos, after, guard } = recStore 59 (ρ x) (ρ y) := rfl
theorem post_loadD (w : World) (b o : Nat) (h : okL 10 w b o) : (recLoad 59 (.pointer (some ⟨b, o, none⟩))).run Try.prog w = .ok (.value (.agg (loL 10 w b o).toArray)) w := by
  unfold recLoad
  rw [Sem.run_bind, run_load_rec 10 Try.underlying59 rfl (by kernel_rfl) w b o h]
  rfl
attribute [local go_sem ↓] post_execLoadD

attribute [local go_sem] post_loadD loL_drew okL_drew there_sc World.there_drew

set_option maxRecDepth 4000 in
theorem eqInPD (x : Pst) (w : World) : (Op.equalIn 10000 59 (.agg x.cells.toArray) (.agg x.cells.toArray)).run Try.prog w = .ok true w := by
  have hS : Try.prog.underlying 59 = some (.struct (Try.prog.fieldsOf 59)) := by kernel_rfl
  have hp : Try.prog.stoodInHeld 59 = false := by kernel_rfl
  unfold Pst.cells
  rw [show (10000 : Nat) = 9999 + 1 from rfl, run_equalIn_agg w 9999 59 _ _ hS hp]
  simp only [Program.fieldsOf, Try.underlying59]
  go_simp
theorem guardPnD (x y : Operand) (xs ys : Array Value) (w : World) : (eqGuard .neq 59 x y (.agg xs) (.agg ys)).run Try.prog w = .ok () w := run_eqGuard_agg w _ _ _ _ _ _ (by kernel_rfl)

set_option maxRecDepth 4000 in
set_option maxHeartbeats 400000 in
theorem rSame_anyD (l : List Pst) (p p' : Option Addr) (n cap cap' : Nat) (w : World) (hs : LS Pst.cells 10 w (.slice p n cap) l) (hs' : LS Pst.cells 10 w (.slice p' n cap') l) :
    Calls Try.prog 10 #[.slice p n cap, .slice p' n cap'] w fun e w' => e = .returned (.bool true) ∧ Below w.heap.size w w' := by
  have HL := Lib.hid hs.length
  have HS := Lib.hid hs; have HS' := Lib.hid hs'
  have hmax : n ≤ 9223372036854775807 := by have h1 := HL.out.2.1; have h2 := HL.out.2.2; simp only [maxLen] at h2; omega
  clear hs hs'
  go_enter Try.func10, Try.ntmps10
  go_wp2
  go_loopw [5] (fun i wr => ∃ k : Nat, k ≤ n ∧ i = .int .i64 k ∧ Below w.heap.size w wr) (fun i _ => n - (intOf i).toNat)
  case atStart => exact ⟨0, Nat.zero_le _, rfl, Below.refl _ _⟩
  case round =>
    obtain ⟨k, hk, rfl, hbw⟩ := hrel
    have HBW := Lib.hid hbw
    by_cases hlt : k < n
    · obtain ⟨x, hx⟩ : ∃ x, l[k]? = some x := ⟨_, List.getElem?_eq_getElem (by have := HL.out.1; omega)⟩
      obtain ⟨b, o, rfl, hb, hr⟩ := (HS.out.below hbw).at hx
      obtain ⟨b', o', rfl, hb', hr'⟩ := (HS'.out.below hbw).at hx
      obtain ⟨f1, f2⟩ := loL_of hr (show x.cells.length = 10 from rfl)
      obtain ⟨f3, f4⟩ := loL_of hr' (show x.cells.length = 10 from rfl)
      have hE := fun W => eqInPD x W
      have hG := guardPnD
      generalize x.cells = cx at *
      clear hx hr hr' hbw
      go_wp2_with fail
      go_region
      go_wp2
      go_roundw
      case rel => exact ⟨k + 1, by omega, by go_num, HBW.out.drew⟩
      case measure => simp [intOf]; omega
    · obtain rfl : k = n := by omega
      go_wp2
      go_ret
      exact ⟨rfl, HBW.out⟩

end Go.Proofs.Ytadabjkhiaidcaa
