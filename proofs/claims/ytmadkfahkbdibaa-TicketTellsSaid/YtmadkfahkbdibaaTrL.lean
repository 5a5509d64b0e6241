/- Steps of a ticket handed in as a list; a ticket in memory beside a box that is written. -/
import Derived.Test.YtmadkfahkbdibaaTrD
set_option linter.unusedVariables false
set_option linter.unusedSimpArgs false
namespace Go.Proofs.Ytmadkfahkbdibaa
open Go.ChangeShapes Go.WideShapes Go.ChangeAt Go.RowKit Go.Deep

structure Stp where
  co : Int
  on : Int
  tq : Int
  wi : Int
def Stp.cells (s : Stp) : List Value := [.int .i64 s.co, .int .i64 s.on, .int .i64 s.tq, .int .u64 s.wi]
def Stp.wf (s : Stp) : Prop := I64 s.co ∧ I64 s.on ∧ U64 s.wi
theorem st_leaves : leaves Try.prog 4 37 = some ([.i64, .i64, .i64, .u64].map .int) := by kernel_rfl
section
variable {H : Type} {enc : TypeId × Value → H} {W : World} {held : Bool}
theorem open_steps {fuel : Nat} {v : Value} {x : DataW H × List MemPlace} (h : DataW.trod enc Try.prog W 0 (fun _ => true) held fuel 28 [v] = some x) : ∃ l : List Stp, LS Stp.cells 4 W v l ∧ ∀ y ∈ l, y.wf :=
  open_recs (n := 4) (ks := [.i64, .i64, .i64, .u64]) (fun y : Stp => y.wf) (fun zs hz => by
    obtain ⟨z0, r0, rfl, w0, h⟩ := hz.consT
    obtain ⟨z1, r1, rfl, w1, h⟩ := h.consT
    obtain ⟨z2, r2, rfl, w2, h⟩ := h.consT
    obtain ⟨z3, r3, rfl, w3, h⟩ := h.consT
    obtain rfl := h.nilT
    exact ⟨⟨z0, z1, z2, z3⟩, rfl, i64_wfT w0, i64_wfT w1, u64_wfT w3⟩) Try.underlying28 st_leaves (by kernel_rfl) (by decide) h
end
section
variable {α : Type} {enc : α → List Value} {n : Nat}
theorem LS.only {w w' : World} {v : Value} {l : List α} {g : Nat} (h : LS enc n w v l) (hne : l ≠ [] → ∀ b, v.ownBlock = some b → b ≠ g) (hw : Only g w w') : LS enc n w' v l := by
  by_cases hl : l = []
  · subst hl
    obtain ⟨p, cap, rfl, h1, h2, -⟩ := h
    exact ⟨p, cap, rfl, h1, h2, fun h => absurd rfl h⟩
  · exact h.keep hw.size (fun b hb hlt => hw.block b hlt (hne hl b hb))
theorem LS.old {w : World} {v : Value} {l : List α} (h : LS enc n w v l) {g : Nat} (hg : w.heap.size ≤ g) : l ≠ [] → ∀ b, v.ownBlock = some b → b ≠ g := fun hl b hb => by
  obtain ⟨p, cap, rfl, h1, h2, h3⟩ := h
  obtain ⟨b2, o, rfl, hlt, -⟩ := h3 hl
  simp only [Value.ownBlock] at hb
  injection hb with hb
  omega
end
/-- none of a ticket's lists lies in a block -/
structure Off (g : Nat) (t : Tk) (c x h : Sl) : Prop where
  c : t.cs ≠ [] → ∀ b, (Value.slice c.p c.n c.c).ownBlock = some b → b ≠ g
  x : t.ts ≠ [] → ∀ b, (Value.slice x.p x.n x.c).ownBlock = some b → b ≠ g
  h : t.hs ≠ [] → ∀ b, (Value.slice h.p h.n h.c).ownBlock = some b → b ≠ g
theorem TS.only {w w' : World} {t : Tk} {c x h : Sl} {g : Nat} (s : TS w t c x h) (ho : Off g t c x h) (hw : Only g w w') : TS w' t c x h :=
  ⟨s.cs.only ho.c hw, s.ts.only ho.x hw, s.hs.only ho.h hw, s.wf⟩
/-- what was handed in lies below the blocks that are made later -/
theorem Off.of_old {w : World} {t : Tk} {c x h : Sl} {g : Nat} (s : TS w t c x h) (hg : w.heap.size ≤ g) : Off g t c x h := ⟨s.cs.old hg, s.ts.old hg, s.hs.old hg⟩
/-- what lies in blocks from a place on is off a block below it -/
theorem Off.of_own {w : World} {B g : Nat} {t : Tk} {c x h : Sl} {e1 e2 e3 n1 n2 n3 m1 m2 m3 : Nat} {xs ys zs : List Value} (h1 : w.ownsRow B e1 n1 (.slice c.p c.n c.c) m1 xs) (h2 : w.ownsRow B e2 n2 (.slice x.p x.n x.c) m2 ys) (h3 : w.ownsRow B e3 n3 (.slice h.p h.n h.c) m3 zs) (hg : g < B) : Off g t c x h :=
  ⟨fun _ b hb => by have := (recs_base h1 hb).1; omega, fun _ b hb => by have := (recs_base h2 hb).1; omega, fun _ b hb => by have := (recs_base h3 hb).1; omega⟩
end Go.Proofs.Ytmadkfahkbdibaa
