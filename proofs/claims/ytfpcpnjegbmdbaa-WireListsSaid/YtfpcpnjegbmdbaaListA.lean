/- A slice of events in memory, as a list; the equality of two events. -/
import Derived.Test.YtfpcpnjegbmdbaaListP
set_option linter.unusedVariables false
set_option linter.unusedSimpArgs false
namespace Go.Proofs.Ytfpcpnjegbmdbaa
open Go.RowKit

def EvAt (w : World) (b o : Nat) (x : Ev) : Prop :=
  w.cell? ⟨b, o, none⟩ = some (.int .i64 x.day) ∧ w.cell? ⟨b, o + 1, none⟩ = some (.int .u64 (x.cou : Int)) ∧ w.cell? ⟨b, o + 2, none⟩ = some (.int .u8 (x.frm : Int)) ∧ w.cell? ⟨b, o + 3, none⟩ = some (.int .u8 (x.to : Int)) ∧
    w.cell? ⟨b, o + 4, none⟩ = some (.bool x.live) ∧ w.cell? ⟨b, o + 5, none⟩ = some (.string x.note) ∧ w.cell? ⟨b, o + 6, none⟩ = some (.string x.car)
/-- the value is a slice of the events l -/
def EvS (w : World) (v : Value) (l : List Ev) : Prop :=
  ∃ (p : Option Addr) (cap : Nat), v = .slice p l.length cap ∧ l.length ≤ cap ∧ cap ≤ maxLen ∧ (∀ x ∈ l, x.wf ∧ x.note.size ≤ maxLen ∧ x.car.size ≤ maxLen) ∧
    (l ≠ [] → ∃ b o, p = some ⟨b, o, none⟩ ∧ b < w.heap.size ∧ ∀ i x, l[i]? = some x → EvAt w b (o + i * 7) x)
theorem EvAt.of_cells {w w' : World} {b o : Nat} {x : Ev} (h : EvAt w b o x) (hk : ∀ j, w'.cell? ⟨b, j, none⟩ = w.cell? ⟨b, j, none⟩) : EvAt w' b o x := by
  unfold EvAt; simp only [hk]; exact h

section
open Go.ChangeShapes Go.WideShapes Go.ChangeAt Go.Deep
variable {H : Type} {enc : TypeId × Value → H} {W : World} {base : Nat} {held : Bool}
theorem evCells : Try.prog.cellsOf 72 = 7 := by kernel_rfl
set_option maxRecDepth 10000 in
theorem open_event {n : Nat} {cs : List Value} {x : DataW H × List MemPlace} (h : DataW.trod enc Try.prog W 0 (fun _ => true) held n 72 cs = some x) :
    ∃ p : Ev, cs = [.int .i64 p.day, .int .u64 (p.cou : Int), .int .u8 (p.frm : Int), .int .u8 (p.to : Int), .bool p.live, .string p.note, .string p.car] ∧ p.wf ∧ p.note.size ≤ maxLen ∧ p.car.size ≤ maxLen := by
  obtain ⟨xs, m, _, hx, hl, hxl, hf⟩ := DataW.trod_struct Try.underlying72 h
  rw [evCells] at hl
  match cs, hl with
  | [c0, c1, c2, c3, c4, c5, c6], _ =>
    have g : ∀ i, i < 7 → ∃ y, xs[i]? = some y := fun i hi => ⟨_, List.getElem?_eq_getElem (by simp at hxl; omega)⟩
    obtain ⟨y0, e0⟩ := g 0 (by omega)
    obtain ⟨y1, e1⟩ := g 1 (by omega)
    obtain ⟨y2, e2⟩ := g 2 (by omega)
    obtain ⟨y3, e3⟩ := g 3 (by omega)
    obtain ⟨y4, e4⟩ := g 4 (by omega)
    obtain ⟨y5, e5⟩ := g 5 (by omega)
    obtain ⟨y6, e6⟩ := g 6 (by omega)
    obtain ⟨z0, f0, -, w0⟩ := DataW.trod_int (k := .i64) Try.underlying2 ((hf 0 _ rfl).trans e0)
    obtain ⟨z1, f1, -, w1⟩ := DataW.trod_int (k := .u64) Try.underlying33 ((hf 1 _ rfl).trans e1)
    obtain ⟨z2, f2, -, w2⟩ := DataW.trod_int (k := .u8) Try.underlying5 ((hf 2 _ rfl).trans e2)
    obtain ⟨z3, f3, -, w3⟩ := DataW.trod_int (k := .u8) Try.underlying5 ((hf 3 _ rfl).trans e3)
    obtain ⟨z4, f4, -⟩ := DataW.trod_bool Try.underlying4 ((hf 4 _ rfl).trans e4)
    obtain ⟨z5, f5, -, w5⟩ := DataW.trod_string Try.underlying9 ((hf 5 _ rfl).trans e5)
    obtain ⟨z6, f6, -, w6⟩ := DataW.trod_string Try.underlying9 ((hf 6 _ rfl).trans e6)
    have c1i : Try.prog.cellsOf 2 = 1 := by kernel_rfl
    have c1u : Try.prog.cellsOf 33 = 1 := by kernel_rfl
    have c1b : Try.prog.cellsOf 5 = 1 := by kernel_rfl
    have c1o : Try.prog.cellsOf 4 = 1 := by kernel_rfl
    have c1s : Try.prog.cellsOf 9 = 1 := by kernel_rfl
    simp [c1i, c1u, c1b, c1o, c1s] at f0 f1 f2 f3 f4 f5 f6
    subst f0 f1 f2 f3 f4 f5 f6
    have b1 := u64_bdW w1
    have b2 : 0 ≤ z2 ∧ z2 ≤ 255 := by simpa [Lit.wf, IntKind.min, IntKind.max, IntKind.signed, IntKind.bits] using w2
    have b3 : 0 ≤ z3 ∧ z3 ≤ 255 := by simpa [Lit.wf, IntKind.min, IntKind.max, IntKind.signed, IntKind.bits] using w3
    obtain ⟨N1, rfl⟩ := Int.eq_ofNat_of_zero_le b1.1
    obtain ⟨N2, rfl⟩ := Int.eq_ofNat_of_zero_le b2.1
    obtain ⟨N3, rfl⟩ := Int.eq_ofNat_of_zero_le b3.1
    exact ⟨⟨z0, N1, N2, N3, z4, z5, z6⟩, rfl, ⟨i64_bdW w0, by show N1 < _; omega, by show N2 < _; omega, by show N3 < _; omega⟩, w5, w6⟩
set_option maxRecDepth 10000 in
theorem open_events {v : Value} {r : Reach} {b0 : Nat} {d : DataW H} {ps : List MemPlace} (hv : Value.okWide Try.prog W r b0 69 v)
    (h : DataW.Trod enc Try.prog W 0 (fun _ => true) held 69 v d ps) : ∃ (l : List Ev) (p : Option Addr) (n cap : Nat), v = .slice p n cap ∧ n = l.length ∧ EvS W (.slice p n cap) l := by
  have hcs : v.cells = #[v] := by
    simp only [Value.okWide, Try.underlying69] at hv
    cases v <;> first | rfl | simp [Cell.okWide, Cell.ok] at hv
  obtain ⟨fuel, hf⟩ := h
  rw [hcs] at hf
  rcases open_slice Try.underlying69 hf with ⟨h0, _⟩ | ⟨a, len, cap, m, n, D, Pl, h0, hb, hl, hm, hmm, hx, hi⟩
  · injection h0 with h0 _
    exact ⟨[], none, 0, 0, h0, rfl, none, 0, rfl, Nat.le_refl _, Nat.zero_le _, fun x hx => absurd hx (by simp), fun h => absurd rfl h⟩
  · simp only [ite_true] at hmm
    subst hmm
    have key : ∀ i, i < len → ∃ p : Ev, (p.wf ∧ p.note.size ≤ maxLen ∧ p.car.size ≤ maxLen) ∧ ∀ j, j < 7 → W.cell? ((a.add (i * 7)).add j) = ([.int .i64 p.day, .int .u64 (p.cou : Int), .int .u8 (p.frm : Int), .int .u8 (p.to : Int), .bool p.live, .string p.note, .string p.car] : List Value)[j]? := by
      intro i hil
      obtain ⟨cs', h1, h2⟩ := hi i (by omega)
      obtain ⟨p, rfl, hw, hbs⟩ := open_event h2
      rw [evCells] at h1
      obtain ⟨_, _, hcell⟩ := World.cells?_some h1
      exact ⟨p, ⟨hw, hbs⟩, hcell⟩
    have : Inhabited Ev := ⟨⟨0, 0, 0, 0, false, ByteArray.empty, ByteArray.empty⟩⟩
    obtain ⟨f, hf⟩ := choose_lt key
    injection h0 with h0 _
    refine ⟨(List.range len).map f, some a, len, m, h0, by simp, some a, m, by simp, by simpa using hl, hm, ?_, ?_⟩
    · intro x hx
      obtain ⟨i, hi, rfl⟩ := List.mem_map.1 hx
      exact (hf i (List.mem_range.1 hi)).1
    · intro hne
      have hpos : 0 < len := by
        rcases Nat.eq_zero_or_pos len with h | h
        · subst h; simp at hne
        · exact h
      have h00 := (hf 0 hpos).2 0 (by omega)
      have hsp := spot_none h00
      have hbl := cell_blockW h00
      obtain ⟨b, o, sp⟩ := a
      have hs' : sp = none := by simpa [Addr.add] using hsp
      subst hs'
      refine ⟨b, o, rfl, by simpa [Addr.add] using hbl, fun i x hx => ?_⟩
      rw [List.getElem?_map] at hx
      rcases Nat.lt_or_ge i len with hil | hil
      · rw [List.getElem?_range hil] at hx
        injection hx with hx
        subst hx
        have hg := (hf i hil).2
        rw [Go.WideShapes.add_plain] at hg
        have hg' : ∀ j, j < 7 → W.cell? ⟨b, o + i * 7 + j, none⟩ = ([.int .i64 (f i).day, .int .u64 ((f i).cou : Int), .int .u8 ((f i).frm : Int), .int .u8 ((f i).to : Int), .bool (f i).live, .string (f i).note, .string (f i).car] : List Value)[j]? := fun j hj => by have := hg j hj; rwa [Go.WideShapes.add_plain] at this
        exact ⟨hg' 0 (by omega), hg' 1 (by omega), hg' 2 (by omega), hg' 3 (by omega), hg' 4 (by omega), hg' 5 (by omega), hg' 6 (by omega)⟩
      · rw [List.getElem?_eq_none (by simpa using hil)] at hx
        cases hx
end
theorem neqEv (a b c d : Int) (q : Bool) (S T : ByteArray) (w : World) : (binOp .neq 72 (.agg #[.int .i64 a, .int .u64 b, .int .u8 c, .int .u8 d, .bool q, .string S, .string T]) (.agg #[.int .i64 a, .int .u64 b, .int .u8 c, .int .u8 d, .bool q, .string S, .string T])).run Try.prog w = .ok (.bool false) w := by
  have hS : Try.prog.underlying 72 = some (.struct (Try.prog.fieldsOf 72)) := by kernel_rfl
  have hp : Try.prog.stoodInHeld 72 = false := by kernel_rfl
  rw [run_neq_struct, show (10000 : Nat) = 9999 + 1 from rfl, run_equalIn_agg w 9999 72 _ _ hS hp]
  simp only [Program.fieldsOf, Try.underlying72]
  go_simp
theorem guardEv (x y : Operand) (xs ys : Array Value) (w : World) : (eqGuard .neq 72 x y (.agg xs) (.agg ys)).run Try.prog w = .ok () w := run_eqGuard_agg w _ _ _ _ _ _ (by kernel_rfl)
end Go.Proofs.Ytfpcpnjegbmdbaa
