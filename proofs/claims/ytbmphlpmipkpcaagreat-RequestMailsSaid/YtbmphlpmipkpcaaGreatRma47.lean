/- Contract: the letter of bytes (letter.Of). -/
import Derived.Test.YtbmphlpmipkpcaaGreatRma39
import Derived.Test.YtbmphlpmipkpcaaGreatRma40
import Derived.Test.YtbmphlpmipkpcaaGreatRma41
import Derived.Test.YtbmphlpmipkpcaaGreatRma34
import Derived.Test.YtbmphlpmipkpcaaGreatRma46
import Derived.Deep.Cut

set_option linter.unusedVariables false
set_option linter.unusedSimpArgs false
namespace Go.Proofs.YtbmphlpmipkpcaaGreat
open Go.RowKit

theorem run_rest (p : Option Addr) (n cap m : Nat) (h : m ≤ n) (hc : n ≤ cap) (W : World) : (Instr.slice 47 (.slice p n cap) (some (.int .i64 (m : Int))) (some (.int .i64 (n : Int))) (some (.int .i64 (n : Int)))).run Tryz.prog W = .ok (.slice (if n = m then p else p.map (·.add (m * 1))) (n - m) (n - m)) W := by
  have ht : Tryz.prog.underlying 47 = some (.slice (Tryz.prog.elem 47)) := by kernel_rfl
  have hz : ∀ W : World, (sizeOf (Tryz.prog.elem 47)).run Tryz.prog W = .ok 1 W := fun W => by
    rw [show Tryz.prog.elem 47 = 5 from by kernel_rfl]; simp [go_sem]
  rw [run_slice_lhm W _ _ _ _ ht _ _ _ _ _ _ (by omega) (by omega) (by omega) (by omega), hz]
  simp [sliced, Result.andThen]
theorem rest_bs {w : World} {p : Option Addr} {cap m : Nat} {b : List UInt8} (h : BS w (.slice p b.length cap) b) (hm : m ≤ b.length) : BS w (.slice (if b.length = m then p else p.map (·.add (m * 1))) (b.length - m) (b.length - m)) (b.drop m) := by
  obtain ⟨p', cap', e, h1, h2, h3⟩ := h
  injection e with e1 e2 e3
  subst e1; subst e3
  refine ⟨_, b.length - m, by rw [List.length_drop], by rw [List.length_drop]; exact Nat.le_refl _, by omega, fun hne => ?_⟩
  have hlt : m < b.length := by
    rcases Nat.lt_or_ge m b.length with h | h
    · exact h
    · exact absurd (List.drop_of_length_le h) hne
  obtain ⟨g, o, rfl, hg, hc⟩ := h3 (by intro h0; rw [h0] at hlt; simp at hlt)
  rw [if_neg (by omega)]
  refine ⟨g, o + m, ?_, hg, fun i x hx => ?_⟩
  · by_cases h0 : m = 0
    · subst h0; simp [Addr.add]
    · simp [Addr.add, h0]
  · rw [List.getElem?_drop] at hx
    have := hc (m + i) x hx
    rwa [← Nat.add_assoc] at this
theorem setCells_rowP {g : Nat} {e : TypeId} : ∀ (cs pre zs : List Value) (w : World), w.heap[g]? = some (.cells (pre ++ zs).toArray e (0, 0)) → zs.length = cs.length → (w.setCells g pre.length cs).heap[g]? = some (.cells (pre ++ cs).toArray e (0, 0)) := by
  intro cs
  induction cs with
  | nil => intro pre zs w h hl; rw [List.length_eq_zero_iff.1 hl] at h; exact h
  | cons c cs ih =>
    intro pre zs w h hl
    obtain ⟨z, zs, rfl⟩ : ∃ z zs', zs = z :: zs' := by
      cases zs with
      | nil => simp at hl
      | cons z zs => exact ⟨z, zs, rfl⟩
    rw [World.setCells]
    have h1 := heap_setCell_same w g pre.length _ _ c h
    have e1 : (pre ++ z :: zs).toArray.setIfInBounds pre.length c = ((pre ++ [c]) ++ zs).toArray := by simp
    rw [e1] at h1
    have h2 := ih (pre ++ [c]) zs _ h1 (by simpa using hl)
    rw [List.length_append, List.length_singleton, List.append_assoc] at h2
    exact h2
theorem there_rowO {w : World} {g n o : Nat} {cs : List Value} {e : TypeId} (hg : w.heap[g]? = some (.cells cs.toArray e (0, 0))) (h : cs.length = o + n) : w.there g o n := fun j hj => by
  refine ⟨?_, ?_⟩
  · rw [cell_of_row _ _ _ _ _ _ hg]; simp; omega
  · exact frozen_of_row _ _ _ _ _ hg
theorem mOf_wf (b : List UInt8) : U64 (mOf b).tk ∧ I64 (mOf b).va := by
  unfold mOf
  split
  · unfold mGet
    split
    · exact ⟨u64_rNumM _, by constructor <;> simp⟩
    · split
      · exact ⟨u64_rNumM _, i64_wrapM _⟩
      · exact ⟨u64_rNumM _, by constructor <;> simp⟩
  · exact ⟨by constructor <;> simp [zMl], by constructor <;> simp [zMl]⟩
attribute [local go_sem ↓] ml_execLoad ml_execStore

attribute [local go_sem] ml_load ml_store loL_drew okL_drew there_sc World.there_drew

end Go.Proofs.YtbmphlpmipkpcaaGreat
