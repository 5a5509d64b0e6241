/- Contract: what a history tells (the reference's Then, 13). -/
import Derived.Test.YtadabjkhiaidcaaDsl21
import Derived.Test.YtadabjkhiaidcaaDsl1

set_option linter.unusedVariables false
set_option linter.unusedSimpArgs false
namespace Go.Proofs.Ytadabjkhiaidcaa
open Go.RowKit

/-- two rows of statuses of the call's own, each in a block of its own -/
structure NThn (w0 wr : World) (nv tv : Value) (N Th : List Int) : Prop where
  n : wr.ownsRow w0.heap.size 34 1 nv N.length (encL stC N)
  t : wr.ownsRow w0.heap.size 34 1 tv Th.length (encL stC Th)
  b : Below w0.heap.size w0 wr
  d : ∀ b, nv.ownBlock = some b → tv.ownBlock ≠ some b
theorem kept_neT {w w' : World} {base e n m : Nat} {v u : Value} {xs : List Value} (h : w.ownsRow base e n v m xs) (hg : w.grownBy w' u.ownBlock) (hne : ∀ b, v.ownBlock = some b → u.ownBlock ≠ some b) : w'.ownsRow base e n v m xs := by
  refine h.kept hg ?_
  cases hb : v.ownBlock with
  | none => exact .inl rfl
  | some b => exact .inr (fun e1 => hne b hb e1.symm)
theorem NThn.below {w0 wr w' : World} {nv tv : Value} {N Th : List Int} (h : NThn w0 wr nv tv N Th) (hb : Below wr.heap.size wr w') : NThn w0 w' nv tv N Th := ⟨recs_below h.n hb, recs_below h.t hb, h.b.trans (hb.mono h.b.size), h.d⟩
theorem NThn.appn {w0 wr w' : World} {nv tv v : Value} {N Th : List Int} {z : Int} (t : NThn w0 wr nv tv N Th) (h : w'.ownsRow w0.heap.size 34 1 v (N.length + [z].length) (encL stC (N ++ [z]))) (hg : wr.grownBy w' nv.ownBlock) (hat : v.ownBlock = nv.ownBlock ∨ v.ownBlock = some wr.heap.size) : NThn w0 w' v tv (N ++ [z]) Th :=
  ⟨by rw [List.length_append]; exact h, kept_neT t.t hg (fun b hb e => t.d b e hb), t.b.grown hg t.b.size (fun b hb => (recs_base t.n hb).1), fun b hb e => by
    rcases hat with h1 | h1
    · exact t.d b (h1 ▸ hb) e
    · rw [h1] at hb; injection hb with hb; have := (recs_base t.t e).2; omega⟩
theorem NThn.appt {w0 wr w' : World} {nv tv v : Value} {N Th : List Int} {z : Int} (t : NThn w0 wr nv tv N Th) (h : w'.ownsRow w0.heap.size 34 1 v (Th.length + [z].length) (encL stC (Th ++ [z]))) (hg : wr.grownBy w' tv.ownBlock) (hat : v.ownBlock = tv.ownBlock ∨ v.ownBlock = some wr.heap.size) : NThn w0 w' nv v N (Th ++ [z]) :=
  ⟨kept_neT t.n hg (fun b hb e => t.d b hb e), by rw [List.length_append]; exact h, t.b.grown hg t.b.size (fun b hb => (recs_base t.t hb).1), fun b hb e => by
    rcases hat with h1 | h1
    · exact t.d b hb (h1 ▸ e)
    · rw [h1] at e; injection e with e; have := (recs_base t.n hb).2; omega⟩
theorem NThn.setn {w0 wr : World} {tv : Value} {N Th : List Int} {b m c i : Nat} {z : Int} (t : NThn w0 wr (.slice (some ⟨b, 0, none⟩) m c) tv N Th) (hi : i < N.length) : NThn w0 (wr.setCell ⟨b, i, none⟩ (.int .i64 z)) (.slice (some ⟨b, 0, none⟩) m c) tv (N.set i z) Th := by
  have hm : m = N.length := by obtain ⟨q, c', hv⟩ := rec_formT t.n; injection hv
  subst hm
  have h1 := own_setCellT (enc := stC) (n := 1) (fun _ => rfl) (j := 0) (u := .int .i64 z) (x' := z) t.n (List.getElem?_eq_getElem hi) (by decide) rfl
  rw [Nat.mul_one, Nat.add_zero] at h1
  refine ⟨by rw [List.length_set]; exact h1, ?_, Only.below t.b (recs_base t.n rfl).1 t.b.size ((Only.refl b wr).setCell i _), t.d⟩
  exact recs_keep t.t (fun b2 hb2 hlt => ((Only.refl b wr).setCell i _).block b2 hlt (fun e => t.d b rfl (by rw [← e]; exact hb2)))
theorem NThn.sett {w0 wr : World} {nv : Value} {N Th : List Int} {b m c i : Nat} {z : Int} (t : NThn w0 wr nv (.slice (some ⟨b, 0, none⟩) m c) N Th) (hi : i < Th.length) : NThn w0 (wr.setCell ⟨b, i, none⟩ (.int .i64 z)) nv (.slice (some ⟨b, 0, none⟩) m c) N (Th.set i z) := by
  have hm : m = Th.length := by obtain ⟨q, c', hv⟩ := rec_formT t.t; injection hv
  subst hm
  have h1 := own_setCellT (enc := stC) (n := 1) (fun _ => rfl) (j := 0) (u := .int .i64 z) (x' := z) t.t (List.getElem?_eq_getElem hi) (by decide) rfl
  rw [Nat.mul_one, Nat.add_zero] at h1
  refine ⟨?_, by rw [List.length_set]; exact h1, Only.below t.b (recs_base t.t rfl).1 t.b.size ((Only.refl b wr).setCell i _), t.d⟩
  exact recs_keep t.n (fun b2 hb2 hlt => ((Only.refl b wr).setCell i _).block b2 hlt (fun e => t.d b2 hb2 (by rw [e]; rfl)))
theorem st_cell {w : World} {base b c i : Nat} {l : List Int} {z : Int} (h : w.ownsRow base 34 1 (.slice (some ⟨b, 0, none⟩) l.length c) l.length (encL stC l)) (hz : l[i]? = some z) : w.cell? ⟨b, i, none⟩ = some (.int .i64 z) ∧ w.frozen? ⟨b, i, none⟩ = false := by
  have := own_cellT (enc := stC) (n := 1) (fun _ => rfl) h hz (j := 0) (by decide)
  rw [Nat.mul_one, Nat.add_zero] at this
  exact this

end Go.Proofs.Ytadabjkhiaidcaa
