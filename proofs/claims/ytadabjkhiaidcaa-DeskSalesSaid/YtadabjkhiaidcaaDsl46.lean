/- Tickets that a call has made: they stay, whatever becomes of blocks below a bound. A ticket of a sale that is being made: its coupons in one block, its taxes an own row. -/
import Derived.Test.YtadabjkhiaidcaaDsl39
import Derived.Test.YtadabjkhiaidcaaDsl12

section
set_option linter.unusedVariables false
set_option linter.unusedSimpArgs false
namespace Go.Proofs.Ytadabjkhiaidcaa
open Go.ChangeShapes Go.WideShapes Go.ChangeAt Go.RowKit Go.Deep

/-- from a bound on, a world goes on as it was -/
structure Above (base : Nat) (w w' : World) : Prop where
  size : w.heap.size ≤ w'.heap.size
  block : ∀ b, base ≤ b → b < w.heap.size → w'.heap[b]? = w.heap[b]?
theorem Above.refl (base : Nat) (w : World) : Above base w w := ⟨Nat.le_refl _, fun _ _ _ => rfl⟩
theorem Above.trans {base : Nat} {a b c : World} (h : Above base a b) (k : Above base b c) : Above base a c := ⟨Nat.le_trans h.size k.size, fun i hi hl => (k.block i hi (Nat.lt_of_lt_of_le hl h.size)).trans (h.block i hi hl)⟩
theorem Above.of_below {base : Nat} {w w' : World} (h : Below w.heap.size w w') : Above base w w' := ⟨h.size, fun i _ hl => h.block i hl⟩
theorem Above.set {base g : Nat} {w : World} (hg : g < base) (o : Nat) (v : Value) : Above base w (w.setCell ⟨g, o, none⟩ v) := ⟨by simp, fun i hi _ => heap_setCell_other w ⟨g, o, none⟩ i v (by dsimp only; omega)⟩
/-- a ticket whose blocks lie from a bound on -/
def TN (base : Nat) (w : World) (y : Tkr) : Prop := ∀ w', Above base w w' → TS w' y.t y.c y.x y.h
theorem TN.ts {base : Nat} {w : World} {y : Tkr} (h : TN base w y) : TS w y.t y.c y.x y.h := h w (.refl _ _)
theorem TN.above {base : Nat} {w w' : World} {y : Tkr} (h : TN base w y) (k : Above base w w') : TN base w' y := fun u hu => h u (k.trans hu)
theorem TN.of {base : Nat} {w : World} {y : Tkr} (h : TS w y.t y.c y.x y.h) (hc : ∀ b, (Value.slice y.c.p y.c.n y.c.c).ownBlock = some b → base ≤ b) (hx : ∀ b, (Value.slice y.x.p y.x.n y.x.c).ownBlock = some b → base ≤ b) (hh : ∀ b, (Value.slice y.h.p y.h.n y.h.c).ownBlock = some b → base ≤ b) : TN base w y := fun w' k =>
  ⟨h.cs.keep k.size fun b hb hl => k.block b (hc b hb) hl, h.ts.keep k.size fun b hb hl => k.block b (hx b hb) hl, h.hs.keep k.size fun b hb hl => k.block b (hh b hb) hl, h.wf⟩
/-- a slice of tickets of the call's own -/
def TLn (base : Nat) (w : World) (v : Value) (l : List Tkr) : Prop := w.ownsRow base 45 11 v l.length (encL Tkr.cells l) ∧ ∀ y ∈ l, TN base w y
theorem TLn.tl {base : Nat} {w : World} {v : Value} {l : List Tkr} (h : TLn base w v l) : TL w v l := ⟨LS.of_own h.1 Tkr.cells_length (by decide), fun y hy => (h.2 y hy).ts⟩
end Go.Proofs.Ytadabjkhiaidcaa
end

section
set_option linter.unusedVariables false
set_option linter.unusedSimpArgs false
namespace Go.Proofs.Ytadabjkhiaidcaa
open Go.ChangeShapes Go.WideShapes Go.ChangeAt Go.RowKit Go.Deep

structure TI (base : Nat) (W : World) (rb : Nat) (y : Tkr) : Prop where
  c : LS Cpn.cells 6 W (.slice y.c.p y.c.n y.c.c) y.t.cs
  cb : ∀ b, (Value.slice y.c.p y.c.n y.c.c).ownBlock = some b → b = rb
  x : W.ownsRow base 56 2 (.slice y.x.p y.x.n y.x.c) y.t.ts.length (encL Txx.cells y.t.ts)
  h : y.t.hs = [] ∧ y.h = ⟨none, 0, 0⟩
  wf : y.t.wf
theorem TI.below {base rb : Nat} {W W' : World} {y : Tkr} (h : TI base W rb y) (hb : Below W.heap.size W W') : TI base W' rb y := ⟨h.c.below hb, h.cb, recs_below h.x hb, h.h, h.wf⟩
theorem TI.grown {base rb e n m : Nat} {W W' : World} {y : Tkr} {v : Value} {xs : List Value} {cs : Array Value} (h : TI base W rb y) (ho : W.ownsRow base e n v m xs) (hg : W.grownBy W' v.ownBlock) (hrb : W.heap[rb]? = some (.cells cs 37 (0, 0))) (h1 : e ≠ 37) (h2 : e ≠ 56) : TI base W' rb y :=
  ⟨h.c.keep hg.size fun b hb hl => hg.block b hl (fun k => own_neT ho hrb h1 b k.symm (h.cb b hb)), h.cb, own_apartT h.x ho hg (fun k => h2 k.symm), h.h, h.wf⟩
theorem TI.tn {base rb : Nat} {W : World} {y : Tkr} (h : TI base W rb y) (hrb : base ≤ rb) : TN base W y := by
  refine TN.of ⟨h.c, LS.of_own h.x Txx.cells_length (by decide), ?_, h.wf⟩ (fun b hb => by rw [h.cb b hb]; exact hrb) (fun b hb => (recs_base h.x hb).1) ?_
  · rw [h.h.1, h.h.2]; exact LS.nil W
  · rw [h.h.2]; intro b hb; cases hb
end Go.Proofs.Ytadabjkhiaidcaa
end
