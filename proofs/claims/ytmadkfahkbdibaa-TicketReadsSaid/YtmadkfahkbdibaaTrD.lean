/- Tickets and steps handed in as arguments; rows that are written over. -/
import Derived.Test.YtmadkfahkbdibaaTrC
import Derived.Test.YtmadkfahkbdibaaShape
import Derived.Test.YtmadkfahkbdibaaLift
set_option linter.unusedVariables false
set_option linter.unusedSimpArgs false
namespace Go.Proofs.Ytmadkfahkbdibaa
open Go.ChangeShapes Go.WideShapes Go.ChangeAt Go.RowKit Go.Deep

theorem u64_wfT {z : Int} (h : (Lit.int .u64 z).wf = true) : U64 z := by
  simpa [U64, Lit.wf, IntKind.min, IntKind.max, IntKind.signed, IntKind.bits] using h
theorem i64_wfT {z : Int} (h : (Lit.int .i64 z).wf = true) : I64 z := by
  simpa [I64, Lit.wf, IntKind.min, IntKind.max, IntKind.signed, IntKind.bits] using h
theorem IntsOk.consT {k : IntKind} {ks : List IntKind} : ∀ {zs : List Int}, IntsOk (k :: ks) zs → ∃ z r, zs = z :: r ∧ (Lit.int k z).wf = true ∧ IntsOk ks r
  | z :: r, h => ⟨z, r, rfl, h.1, h.2⟩
  | [], h => h.elim
theorem IntsOk.nilT : ∀ {zs : List Int}, IntsOk [] zs → zs = []
  | [], _ => rfl
  | _ :: _, h => h.elim
def tkLs : List Leaf := [.int .u64, .str, .int .i64, .other 23, .other 24, .int .u64, .int .u64, .int .u64, .int .i64, .int .i64, .other 25]
theorem tk_leaves : leaves Try.prog 5 27 = some tkLs := by kernel_rfl
theorem cp_leaves : leaves Try.prog 4 44 = some ([.i64, .i64, .i64, .i64, .i64, .u64].map .int) := by kernel_rfl
theorem tx_leaves : leaves Try.prog 4 48 = some ([.i64, .i64].map .int) := by kernel_rfl
theorem ev_leaves : leaves Try.prog 4 46 = some ([.i64, .i64, .i64, .i64].map .int) := by kernel_rfl
section
variable {H : Type} {enc : TypeId × Value → H} {W : World} {held : Bool}
theorem open_cpns {fuel : Nat} {v : Value} {x : DataW H × List MemPlace} (h : DataW.trod enc Try.prog W 0 (fun _ => true) held fuel 23 [v] = some x) : ∃ l : List Cpn, LS Cpn.cells 6 W v l ∧ ∀ y ∈ l, y.wf :=
  open_recs (n := 4) (ks := [.i64, .i64, .i64, .i64, .i64, .u64]) (fun y : Cpn => y.wf) (fun zs hz => by
    obtain ⟨z0, r0, rfl, w0, h⟩ := hz.consT
    obtain ⟨z1, r1, rfl, w1, h⟩ := h.consT
    obtain ⟨z2, r2, rfl, w2, h⟩ := h.consT
    obtain ⟨z3, r3, rfl, w3, h⟩ := h.consT
    obtain ⟨z4, r4, rfl, w4, h⟩ := h.consT
    obtain ⟨z5, r5, rfl, w5, h⟩ := h.consT
    obtain rfl := h.nilT
    exact ⟨⟨z0, z1, z2, z3, z4, z5⟩, rfl, i64_wfT w0, i64_wfT w1, i64_wfT w2, i64_wfT w3, i64_wfT w4, u64_wfT w5⟩) Try.underlying23 cp_leaves (by kernel_rfl) (by decide) h
theorem open_txxs {fuel : Nat} {v : Value} {x : DataW H × List MemPlace} (h : DataW.trod enc Try.prog W 0 (fun _ => true) held fuel 24 [v] = some x) : ∃ l : List Txx, LS Txx.cells 2 W v l ∧ ∀ y ∈ l, y.wf :=
  open_recs (n := 4) (ks := [.i64, .i64]) (fun y : Txx => y.wf) (fun zs hz => by
    obtain ⟨z0, r0, rfl, w0, h⟩ := hz.consT
    obtain ⟨z1, r1, rfl, w1, h⟩ := h.consT
    obtain rfl := h.nilT
    exact ⟨⟨z0, z1⟩, rfl, i64_wfT w0, i64_wfT w1⟩) Try.underlying24 tx_leaves (by kernel_rfl) (by decide) h
theorem open_evts {fuel : Nat} {v : Value} {x : DataW H × List MemPlace} (h : DataW.trod enc Try.prog W 0 (fun _ => true) held fuel 25 [v] = some x) : ∃ l : List Evt, LS Evt.cells 4 W v l ∧ ∀ y ∈ l, y.wf :=
  open_recs (n := 4) (ks := [.i64, .i64, .i64, .i64]) (fun y : Evt => y.wf) (fun zs hz => by
    obtain ⟨z0, r0, rfl, w0, h⟩ := hz.consT
    obtain ⟨z1, r1, rfl, w1, h⟩ := h.consT
    obtain ⟨z2, r2, rfl, w2, h⟩ := h.consT
    obtain ⟨z3, r3, rfl, w3, h⟩ := h.consT
    obtain rfl := h.nilT
    exact ⟨⟨z0, z1, z2, z3⟩, rfl, i64_wfT w0, i64_wfT w1, i64_wfT w2, i64_wfT w3⟩) Try.underlying25 ev_leaves (by kernel_rfl) (by decide) h
theorem AllOk.consT {l : Leaf} {ls : List Leaf} : ∀ {cs : List Value}, AllOk enc Try.prog W held (l :: ls) cs → ∃ v vs, cs = v :: vs ∧ l.ok enc Try.prog W held v ∧ AllOk enc Try.prog W held ls vs
  | v :: vs, h => ⟨v, vs, rfl, h.1, h.2⟩
  | [], h => h.elim
theorem AllOk.nilT : ∀ {cs : List Value}, AllOk enc Try.prog W held [] cs → cs = []
  | [], _ => rfl
  | _ :: _, h => h.elim
set_option maxRecDepth 10000 in
theorem open_ticket {r : Reach} {b0 : Nat} {v : Value} {d : DataW H} {ps : List MemPlace} (hv : Value.okWide Try.prog W r b0 27 v) (h : DataW.Trod enc Try.prog W 0 (fun _ => true) held 27 v d ps) :
    ∃ (t : Tk) (c x h : Sl), v = .agg #[.int .u64 t.num, .string t.loc, .int .i64 t.iss, .slice c.p c.n c.c, .slice x.p x.n x.c, .int .u64 t.prev, .int .u64 t.org, .int .u64 t.fst, .int .i64 t.vou, .int .i64 t.posts, .slice h.p h.n h.c] ∧ TS W t c x h := by
  obtain ⟨cs, rfl, hc⟩ := open_leaves Try.underlying27 tk_leaves hv h
  unfold tkLs at hc
  obtain ⟨v0, r0, rfl, m0, hc⟩ := hc.consT
  obtain ⟨v1, r1, rfl, m1, hc⟩ := hc.consT
  obtain ⟨v2, r2, rfl, m2, hc⟩ := hc.consT
  obtain ⟨v3, r3, rfl, m3, hc⟩ := hc.consT
  obtain ⟨v4, r4, rfl, m4, hc⟩ := hc.consT
  obtain ⟨v5, r5, rfl, m5, hc⟩ := hc.consT
  obtain ⟨v6, r6, rfl, m6, hc⟩ := hc.consT
  obtain ⟨v7, r7, rfl, m7, hc⟩ := hc.consT
  obtain ⟨v8, r8, rfl, m8, hc⟩ := hc.consT
  obtain ⟨v9, r9, rfl, m9, hc⟩ := hc.consT
  obtain ⟨v10, r10, rfl, m10, hc⟩ := hc.consT
  obtain rfl := hc.nilT
  obtain ⟨z0, rfl, w0⟩ := m0
  obtain ⟨s1, rfl, w1⟩ := m1
  obtain ⟨z2, rfl, w2⟩ := m2
  obtain ⟨n3, x3, h3⟩ := m3
  obtain ⟨n4, x4, h4⟩ := m4
  obtain ⟨z5, rfl, w5⟩ := m5
  obtain ⟨z6, rfl, w6⟩ := m6
  obtain ⟨z7, rfl, w7⟩ := m7
  obtain ⟨z8, rfl, w8⟩ := m8
  obtain ⟨z9, rfl, w9⟩ := m9
  obtain ⟨n10, x10, h10⟩ := m10
  obtain ⟨l3, g3, k3⟩ := open_cpns h3
  obtain ⟨l4, g4, k4⟩ := open_txxs h4
  obtain ⟨l10, g10, k10⟩ := open_evts h10
  obtain ⟨p3, c3, rfl⟩ := g3.shape
  obtain ⟨p4, c4, rfl⟩ := g4.shape
  obtain ⟨p10, c10, rfl⟩ := g10.shape
  exact ⟨⟨z0, s1, z2, l3, l4, z5, z6, z7, z8, z9, l10⟩, ⟨p3, _, c3⟩, ⟨p4, _, c4⟩, ⟨p10, _, c10⟩, rfl, ⟨g3, g4, g10, ⟨u64_wfT w0, w1, i64_wfT w2, k3, k4, u64_wfT w5, u64_wfT w6, u64_wfT w7, i64_wfT w8, i64_wfT w9, k10⟩⟩⟩
end
/-- a row of a caller's own, as far as it is to be written over -/
def RowOf (B : Nat) (w : World) (p : Option Addr) (e : TypeId) (s : Nat) : Prop := ∀ b, p = some ⟨b, 0, none⟩ → B ≤ b ∧ ∃ cs, w.heap[b]? = some (.cells cs e (0, 0)) ∧ s ≤ cs.size
theorem heap_setCells_sameT : ∀ (vs : List Value) (w : World) (g o : Nat) (cs : Array Value) (e : TypeId), w.heap[g]? = some (.cells cs e (0, 0)) → ∃ ds, (w.setCells g o vs).heap[g]? = some (.cells ds e (0, 0)) ∧ ds.size = cs.size
  | [], _, _, _, cs, _, h => ⟨cs, h, rfl⟩
  | u :: r, w, g, o, cs, e, h => by
    rw [World.setCells]
    obtain ⟨ds, h1, h2⟩ := heap_setCells_sameT r _ g (o + 1) _ e (heap_setCell_same w g o _ _ u h)
    exact ⟨ds, h1, by rw [h2]; simp⟩
theorem RowOf.setCells {B : Nat} {w : World} {p : Option Addr} {e : TypeId} {s : Nat} (h : RowOf B w p e s) (g o : Nat) (vs : List Value) : RowOf B (w.setCells g o vs) p e s := fun b hb => by
  obtain ⟨h1, cs, h2, h3⟩ := h b hb
  refine ⟨h1, ?_⟩
  by_cases hg : b = g
  · subst hg
    obtain ⟨ds, k1, k2⟩ := heap_setCells_sameT vs w b o cs e h2
    exact ⟨ds, k1, by omega⟩
  · exact ⟨cs, (((Only.refl g w).setCells o vs).block b (block_lt h2) hg).trans h2, h3⟩
theorem RowOf.below {B : Nat} {w w' : World} {p : Option Addr} {e : TypeId} {s : Nat} (h : RowOf B w p e s) (hb : Below w.heap.size w w') : RowOf B w' p e s := fun b hp => by
  obtain ⟨h1, cs, h2, h3⟩ := h b hp
  exact ⟨h1, cs, (hb.block b (block_lt h2)).trans h2, h3⟩
theorem RowOf.of_own {B n m : Nat} {w : World} {p : Option Addr} {k c : Nat} {e : TypeId} {xs : List Value} (h : w.ownsRow B e n (.slice p k c) m xs) : RowOf B w p e (m * n) := fun b hb => by
  subst hb
  obtain ⟨hl, ⟨h1, -⟩ | ⟨g, cap, cur, e1, hg, hh, hnc, hcm, hcs, -⟩⟩ := h
  · cases h1
  · injection e1 with e1 e2 e3
    injection e1 with e1
    injection e1 with e1
    subst e1
    exact ⟨hg, cur, hh, by rw [hcs]; exact Nat.mul_le_mul_right n hnc⟩
theorem RowOf.there {B : Nat} {w : World} {b : Nat} {e : TypeId} {s o n : Nat} (h : RowOf B w (some ⟨b, 0, none⟩) e s) (hs : o + n ≤ s) : w.there b o n := fun j hj => by
  obtain ⟨-, cs, h2, h3⟩ := h b rfl
  refine ⟨?_, frozen_of_row _ _ _ _ _ h2⟩
  rw [cell_of_row _ _ _ _ _ _ h2]
  simp
  omega
end Go.Proofs.Ytmadkfahkbdibaa
