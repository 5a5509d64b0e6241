/- Tools: two operations of a drawn region that may come up in either order; a box that is made beside what a call makes. -/
import Derived.Test.YtmadkfahkbdibaaTrL
set_option linter.unusedVariables false
set_option linter.unusedSimpArgs false
namespace Go.Proofs.Ytmadkfahkbdibaa
open Go.ChangeShapes Go.WideShapes Go.ChangeAt Go.RowKit Go.Deep

theorem cutK {J G : Prop} (h : J → G) (k : J) : G := h k
section
variable {P : Program} {ops : Array Oper} {Q : Exit → Act → World → Prop} {md : Region.Mode} {C : World → Prop} {s0 : Nat}
/-- just two may come up -/
theorem wpAnyG_two {i j : Nat} {oi oj : Oper} {fuel : Nat} {listed : Array Bool} {a : Act} {w : World} (hr : Region.ready md ops listed = [i, j]) (hi : ops[i]? = some oi) (hj : ops[j]? = some oj)
    (h1 : ∀ K' : Act → World → Prop, Shut (∀ a w, (C w ∨ (listed.setIfInBounds i true).getD s0 false = true) → wpAnyG P md ops Q C s0 fuel (listed.setIfInBounds i true) a w → K' a w) → if Region.wanted oi (yielded ops a.tmps) = true then Oper.wp P oi a w K' Q else K' (a.put oi.dst undef) w)
    (h2 : ∀ K' : Act → World → Prop, Shut (∀ a w, (C w ∨ (listed.setIfInBounds j true).getD s0 false = true) → wpAnyG P md ops Q C s0 fuel (listed.setIfInBounds j true) a w → K' a w) → if Region.wanted oj (yielded ops a.tmps) = true then Oper.wp P oj a w K' Q else K' (a.put oj.dst undef) w) :
    wpAnyG P md ops Q C s0 (fuel + 1) listed a w := by
  refine ⟨fun h0 => (by rw [hr] at h0; cases h0), fun k hk => ?_⟩
  rw [hr] at hk
  rcases List.mem_cons.1 hk with rfl | hk
  · exact wpOp_step hi (fun K' hK => h1 K' (fun a w hS hW => hK a w ⟨hS, hW⟩))
  · obtain rfl := List.mem_singleton.1 hk
    exact wpOp_step hj (fun K' hK => h2 K' (fun a w hS hW => hK a w ⟨hS, hW⟩))
end
theorem Off.of_row {w : World} {B g : Nat} {t : Tk} {c x h : Sl} {n1 n2 n3 m1 m2 m3 : Nat} {xs ys zs : List Value} {cs : Array Value} {fr : Nat × Nat} (h1 : w.ownsRow B 44 n1 (.slice c.p c.n c.c) m1 xs) (h2 : w.ownsRow B 48 n2 (.slice x.p x.n x.c) m2 ys) (h3 : w.ownsRow B 46 n3 (.slice h.p h.n h.c) m3 zs) (hg : w.heap[g]? = some (.cells cs 27 fr)) : Off g t c x h :=
  ⟨fun _ => own_neT h1 hg (by decide), fun _ => own_neT h2 hg (by decide), fun _ => own_neT h3 hg (by decide)⟩
theorem below_put {w Y : World} {g : Nat} (hb : Below w.heap.size w Y) (hg : w.heap.size ≤ g) (cs : List Value) : Below w.heap.size w (Y.setCells g 0 cs) :=
  Only.below hb hg hb.size ((Only.refl g Y).setCells 0 cs)
section
variable {P : Program} {H : Type} {enc : TypeId × Value → H} {W : World} {held : Bool}
/-- a slice handed in as an argument -/
theorem open_top {r : Reach} {b0 : Nat} {t e : TypeId} {v : Value} {d : DataW H} {ps : List MemPlace} (hu : P.underlying t = some (.slice e)) (hv : Value.okWide P W r b0 t v) (h : DataW.Trod enc P W 0 (fun _ => true) held t v d ps) : ∃ fuel x, DataW.trod enc P W 0 (fun _ => true) held fuel t [v] = some x := by
  have hcs : v.cells = #[v] := by
    simp only [Value.okWide, hu] at hv
    cases v <;> first | rfl | simp [Cell.okWide, Cell.ok] at hv
  obtain ⟨fuel, hf⟩ := h
  rw [hcs] at hf
  exact ⟨fuel, _, hf⟩
end
section
variable {H : Type} {enc : TypeId × Value → H} {W : World} {held : Bool}
set_option maxRecDepth 10000 in
theorem open_steps' {r : Reach} {b0 : Nat} {v : Value} {d : DataW H} {ps : List MemPlace} (hv : Value.okWide Try.prog W r b0 28 v) (h : DataW.Trod enc Try.prog W 0 (fun _ => true) held 28 v d ps) : ∃ (l : List Stp) (p : Option Addr) (n cap : Nat), v = .slice p n cap ∧ LS Stp.cells 4 W (.slice p n cap) l ∧ ∀ y ∈ l, y.wf := by
  obtain ⟨fuel, x, hf⟩ := open_top Try.underlying28 hv h
  obtain ⟨l, h1, h2⟩ := open_steps hf
  obtain ⟨p, cap, rfl⟩ := h1.shape
  exact ⟨l, p, _, cap, rfl, h1, h2⟩
end
end Go.Proofs.Ytmadkfahkbdibaa
