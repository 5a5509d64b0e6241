/- Contracts of the posting reference: Below, Above, Columns, Amounts, May. Contracts of the posting reference: Columns, Amounts, May. Postings in memory: how a slice of postings that came in reads, as a list of records of ten numbers. Plain words: a sale: its error, its tickets, its postings. -/
import Derived.Test.YtadabjkhiaidcaaDsl38
import Derived.Test.YtadabjkhiaidcaaDsl1
import Derived.Deep.Slices
import Derived.Deep.Strs
import Derived.Test.YtadabjkhiaidcaaDsl34

section
set_option linter.unusedSimpArgs false
set_option linter.unusedVariables false
namespace Go.Proofs.Ytadabjkhiaidcaa
open Go.RowKit

/-- six bools in a new slice -/
def BoolRow (w0 : World) (l : List Bool) (e : Ending) (w' : World) : Prop :=
  ∃ b, w0.heap.size ≤ b ∧ e = .returned (.slice (some ⟨b, 0, none⟩) 6 6) ∧ (∀ j, j < 6 → w'.cell? ⟨b, j, none⟩ = some (.bool (l.getD j false))) ∧ Below w0.heap.size w0 w'

theorem six_cells {P : Nat → Prop} (h0 : P 0) (h1 : P 1) (h2 : P 2) (h3 : P 3) (h4 : P 4) (h5 : P 5) : ∀ j, j < 6 → P j := by
  intro j hj
  rcases (by omega : j = 0 ∨ j = 1 ∨ j = 2 ∨ j = 3 ∨ j = 4 ∨ j = 5) with rfl | rfl | rfl | rfl | rfl | rfl <;> assumption

theorem below6 (w : World) (o0 o1 o2 o3 o4 o5 : Obj) : Below w.heap.size w ((((((w.alloc o0).alloc o1).alloc o2).alloc o3).alloc o4).alloc o5) :=
  ((((((Below.refl _ _).alloc (Nat.le_refl _) _).alloc (by simp) _).alloc (by simp; omega) _).alloc (by simp; omega) _).alloc (by simp; omega) _).alloc (by simp; omega) _

end Go.Proofs.Ytadabjkhiaidcaa
end

section
set_option linter.unusedSimpArgs false
set_option linter.unusedVariables false
namespace Go.Proofs.Ytadabjkhiaidcaa
open Go.RowKit

end Go.Proofs.Ytadabjkhiaidcaa
end

section
set_option linter.unusedVariables false
set_option linter.unusedSimpArgs false
namespace Go.Proofs.Ytadabjkhiaidcaa
open Go.ChangeShapes Go.WideShapes Go.ChangeAt Go.RowKit Go.Deep

structure Pst where
  d : Int
  t : Int
  s : Int
  k : Int
  a0 : Int
  a1 : Int
  a2 : Int
  a3 : Int
  a4 : Int
  a5 : Int

def Pst.cells (p : Pst) : List Value := [.int .i64 p.d, .int .u64 p.t, .int .i64 p.s, .int .i64 p.k, .int .i64 p.a0, .int .i64 p.a1, .int .i64 p.a2, .int .i64 p.a3, .int .i64 p.a4, .int .i64 p.a5]
def Pst.am (p : Pst) : List Int := [p.a0, p.a1, p.a2, p.a3, p.a4, p.a5]
def Pst.may (p : Pst) : Bool := Post.may p.d p.t p.s p.k p.am
def Pst.wf (p : Pst) : Prop := (Lit.int .i64 p.d).wf = true ∧ (Lit.int .u64 p.t).wf = true ∧ (Lit.int .i64 p.s).wf = true ∧ (Lit.int .i64 p.k).wf = true ∧ (Lit.int .i64 p.a0).wf = true ∧ (Lit.int .i64 p.a1).wf = true ∧ (Lit.int .i64 p.a2).wf = true ∧ (Lit.int .i64 p.a3).wf = true ∧ (Lit.int .i64 p.a4).wf = true ∧ (Lit.int .i64 p.a5).wf = true

/-- ten cells in a row at a place hold a posting -/
def PAt (w : World) (b o : Nat) (x : Pst) : Prop :=
  w.cell? ⟨b, o, none⟩ = some (.int .i64 x.d) ∧ w.cell? ⟨b, o + 1, none⟩ = some (.int .u64 x.t) ∧ w.cell? ⟨b, o + 2, none⟩ = some (.int .i64 x.s) ∧ w.cell? ⟨b, o + 3, none⟩ = some (.int .i64 x.k) ∧
  w.cell? ⟨b, o + 4, none⟩ = some (.int .i64 x.a0) ∧ w.cell? ⟨b, o + 5, none⟩ = some (.int .i64 x.a1) ∧ w.cell? ⟨b, o + 6, none⟩ = some (.int .i64 x.a2) ∧ w.cell? ⟨b, o + 7, none⟩ = some (.int .i64 x.a3) ∧
  w.cell? ⟨b, o + 8, none⟩ = some (.int .i64 x.a4) ∧ w.cell? ⟨b, o + 9, none⟩ = some (.int .i64 x.a5)

/-- the value is a slice of the postings l -/
def PS (w : World) (v : Value) (l : List Pst) : Prop :=
  ∃ (p : Option Addr) (cap : Nat), v = .slice p l.length cap ∧ l.length ≤ cap ∧ cap ≤ maxLen ∧ (∀ x ∈ l, x.wf) ∧
    (l ≠ [] → ∃ b o, p = some ⟨b, o, none⟩ ∧ b < w.heap.size ∧ ∀ i x, l[i]? = some x → PAt w b (o + i * 10) x)

theorem PAt.of_cells {w w' : World} {b o : Nat} {x : Pst} (h : PAt w b o x) (hk : ∀ j, w'.cell? ⟨b, j, none⟩ = w.cell? ⟨b, j, none⟩) : PAt w' b o x := by
  unfold PAt; simp only [hk]; exact h
theorem PS.below {w w' : World} {v : Value} {l : List Pst} (h : PS w v l) (hb : Below w.heap.size w w') : PS w' v l := by
  obtain ⟨p, cap, h1, h2, h3, h4, h5⟩ := h
  refine ⟨p, cap, h1, h2, h3, h4, fun hl => ?_⟩
  obtain ⟨b, o, e, hlt, hc⟩ := h5 hl
  exact ⟨b, o, e, Nat.lt_of_lt_of_le hlt hb.size, fun i x hx => (hc i x hx).of_cells fun j => hb.cell (p := ⟨b, j, none⟩) hlt⟩

theorem postCells : Try.prog.cellsOf 59 = 10 := by kernel_rfl

section
variable {H : Type} {enc : TypeId × Value → H} {W : World} {base : Nat} {spare : Nat → Bool} {held : Bool}
theorem cell_block {w : World} {a : Addr} {v : Value} (h : w.cell? a = some v) : a.block < w.heap.size ∧ a.spot = none := by
  unfold World.cell? at h
  split at h
  · rename_i c e f hh
    refine ⟨?_, ?_⟩
    · rcases Nat.lt_or_ge a.block w.heap.size with h1 | h1
      · exact h1
      · rw [Array.getElem?_eq_none h1] at hh; cases hh
    · split at h
      · cases h
      · rename_i hn; cases hs : a.spot with
        | none => rfl
        | some z => simp [hs] at hn
  · cases h
theorem wide_cells {w : World} {a : Addr} {cs : List Value} {n : Nat} (hn : cs.length = n) (h : ∀ j, j < n → w.cell? (a.add j) = cs[j]?) (h0 : 0 < n) :
    ∃ b o, a = ⟨b, o, none⟩ ∧ b < w.heap.size ∧ ∀ j, j < n → w.cell? ⟨b, o + j, none⟩ = cs[j]? := by
  have e0 := h 0 h0
  rw [List.getElem?_eq_getElem (by omega)] at e0
  have hb := cell_block e0
  obtain ⟨b, o, s⟩ := a
  obtain ⟨h1, h2⟩ := hb
  have h2' : s = none := by simpa [Addr.add] using h2
  subst h2'
  refine ⟨b, o, rfl, by simpa [Addr.add] using h1, fun j hj => ?_⟩
  have := h j hj
  rw [Go.WideShapes.add_plain] at this
  exact this

set_option maxRecDepth 10000 in
theorem open_post {n : Nat} {cs : List Value} {x : DataW H × List MemPlace} (h : DataW.trod enc Try.prog W base spare held n 59 cs = some x) : ∃ p : Pst, cs = p.cells ∧ p.wf := by
  obtain ⟨xs, m, _, hx, hl, hxl, hf⟩ := DataW.trod_struct Try.underlying59 h
  rw [postCells] at hl
  match cs, hl with
  | [c0, c1, c2, c3, c4, c5, c6, c7, c8, c9], _ =>
    have g : ∀ i, i < 10 → ∃ y, xs[i]? = some y := fun i hi => ⟨_, List.getElem?_eq_getElem (by simp at hxl; omega)⟩
    obtain ⟨y0, e0⟩ := g 0 (by omega)
    obtain ⟨y1, e1⟩ := g 1 (by omega)
    obtain ⟨y2, e2⟩ := g 2 (by omega)
    obtain ⟨y3, e3⟩ := g 3 (by omega)
    obtain ⟨y4, e4⟩ := g 4 (by omega)
    obtain ⟨y5, e5⟩ := g 5 (by omega)
    obtain ⟨y6, e6⟩ := g 6 (by omega)
    obtain ⟨y7, e7⟩ := g 7 (by omega)
    obtain ⟨y8, e8⟩ := g 8 (by omega)
    obtain ⟨y9, e9⟩ := g 9 (by omega)
    obtain ⟨z0, f0, -, w0⟩ := DataW.trod_int (k := .i64) Try.underlying3 ((hf 0 _ rfl).trans e0)
    obtain ⟨z1, f1, -, w1⟩ := DataW.trod_int (k := .u64) Try.underlying35 ((hf 1 _ rfl).trans e1)
    obtain ⟨z2, f2, -, w2⟩ := DataW.trod_int (k := .i64) Try.underlying3 ((hf 2 _ rfl).trans e2)
    obtain ⟨z3, f3, -, w3⟩ := DataW.trod_int (k := .i64) Try.underlying57 ((hf 3 _ rfl).trans e3)
    obtain ⟨z4, f4, -, w4⟩ := DataW.trod_int (k := .i64) Try.underlying2 ((hf 4 _ rfl).trans e4)
    obtain ⟨z5, f5, -, w5⟩ := DataW.trod_int (k := .i64) Try.underlying2 ((hf 5 _ rfl).trans e5)
    obtain ⟨z6, f6, -, w6⟩ := DataW.trod_int (k := .i64) Try.underlying2 ((hf 6 _ rfl).trans e6)
    obtain ⟨z7, f7, -, w7⟩ := DataW.trod_int (k := .i64) Try.underlying2 ((hf 7 _ rfl).trans e7)
    obtain ⟨z8, f8, -, w8⟩ := DataW.trod_int (k := .i64) Try.underlying2 ((hf 8 _ rfl).trans e8)
    obtain ⟨z9, f9, -, w9⟩ := DataW.trod_int (k := .i64) Try.underlying2 ((hf 9 _ rfl).trans e9)
    have c1i : Try.prog.cellsOf 3 = 1 := by kernel_rfl
    have c1u : Try.prog.cellsOf 35 = 1 := by kernel_rfl
    have c1k : Try.prog.cellsOf 57 = 1 := by kernel_rfl
    have c1l : Try.prog.cellsOf 2 = 1 := by kernel_rfl
    simp [c1i, c1u, c1k, c1l] at f0 f1 f2 f3 f4 f5 f6 f7 f8 f9
    subst f0 f1 f2 f3 f4 f5 f6 f7 f8 f9
    exact ⟨⟨z0, z1, z2, z3, z4, z5, z6, z7, z8, z9⟩, rfl, w0, w1, w2, w3, w4, w5, w6, w7, w8, w9⟩

set_option maxRecDepth 10000 in
theorem open_posts {v : Value} {r : Reach} {d : DataW H} {ps : List MemPlace} (hv : Value.okWide Try.prog W r base 28 v)
    (h : DataW.Trod enc Try.prog W 0 (fun _ => true) held 28 v d ps) : ∃ l : List Pst, PS W v l := by
  have hcs : v.cells = #[v] := by
    simp only [Value.okWide, Try.underlying28] at hv
    cases v <;> first | rfl | simp [Cell.okWide, Cell.ok] at hv
  obtain ⟨fuel, hf⟩ := h
  rw [hcs] at hf
  rcases open_slice Try.underlying28 hf with ⟨h0, _⟩ | ⟨a, len, cap, m, n, D, Pl, h0, hb, hl, hm, hmm, hx, hi⟩
  · refine ⟨[], none, 0, by injection h0, Nat.le_refl _, Nat.zero_le _, fun x hx => absurd hx (by simp), fun h => absurd rfl h⟩
  · simp only [ite_true] at hmm
    subst hmm
    have key : ∀ i, i < len → ∃ p : Pst, p.wf ∧ ∀ j, j < 10 → W.cell? ((a.add (i * 10)).add j) = p.cells[j]? := by
      intro i hil
      obtain ⟨cs', h1, h2⟩ := hi i (by omega)
      obtain ⟨p, rfl, hw⟩ := open_post h2
      rw [postCells] at h1
      obtain ⟨_, _, hcell⟩ := World.cells?_some h1
      exact ⟨p, hw, hcell⟩
    have : Inhabited Pst := ⟨⟨0, 0, 0, 0, 0, 0, 0, 0, 0, 0⟩⟩
    obtain ⟨f, hf⟩ := choose_lt key
    refine ⟨(List.range len).map f, some a, m, by injection h0 with h0 _; rw [h0]; simp, by simpa using hl, hm, ?_, ?_⟩
    · intro x hx
      obtain ⟨i, hi, rfl⟩ := List.mem_map.1 hx
      exact (hf i (List.mem_range.1 hi)).1
    · intro hne
      have hpos : 0 < len := by
        rcases Nat.eq_zero_or_pos len with h | h
        · subst h; simp at hne
        · exact h
      obtain ⟨b, o, he, hlt, _⟩ := wide_cells (n := 10) (cs := (f 0).cells) rfl (hf 0 hpos).2 (by omega)
      rw [Nat.zero_mul] at he
      have ha : a = ⟨b, o, none⟩ := by simpa [Addr.add] using he
      subst ha
      refine ⟨b, o, rfl, hlt, fun i x hx => ?_⟩
      rw [List.getElem?_map] at hx
      rcases Nat.lt_or_ge i len with hil | hil
      · rw [List.getElem?_range hil] at hx
        injection hx with hx
        subst hx
        have hg := (hf i hil).2
        rw [Go.WideShapes.add_plain] at hg
        have hg' : ∀ j, j < 10 → W.cell? ⟨b, o + i * 10 + j, none⟩ = (f i).cells[j]? := fun j hj => by have := hg j hj; rwa [Go.WideShapes.add_plain] at this
        exact ⟨hg' 0 (by omega), hg' 1 (by omega), hg' 2 (by omega), hg' 3 (by omega), hg' 4 (by omega), hg' 5 (by omega), hg' 6 (by omega), hg' 7 (by omega), hg' 8 (by omega), hg' 9 (by omega)⟩
      · rw [List.getElem?_eq_none (by simpa using hil)] at hx
        cases hx

set_option maxRecDepth 10000 in
theorem open_posts' {v : Value} {r : Reach} {d : DataW H} {ps : List MemPlace} (hv : Value.okWide Try.prog W r base 28 v)
    (h : DataW.Trod enc Try.prog W 0 (fun _ => true) held 28 v d ps) : ∃ (l : List Pst) (p : Option Addr) (n cap : Nat), v = .slice p n cap ∧ n = l.length ∧ PS W (.slice p n cap) l := by
  obtain ⟨l, p, cap, rfl, hl⟩ := open_posts hv h
  exact ⟨l, p, l.length, cap, rfl, rfl, p, cap, rfl, hl⟩
end
end Go.Proofs.Ytadabjkhiaidcaa
end

section
set_option linter.unusedVariables false
set_option linter.unusedSimpArgs false
namespace Go.Proofs.Ytadabjkhiaidcaa
open Go.RowKit

namespace Dk
/-- may a sale be? -/
def mayI (day : Int) (loc : ByteArray) (fl : List Cpn) (ts : List Txx) (l : List Int) : Bool := rowB fl 12 && taxedB ts && Num.loc loc.data.toList && decide ((l.length : Int) = need fl.length) && numsB l && Tkt.dayB day
def errI (day : Int) (loc : ByteArray) (fl : List Cpn) (ts : List Txx) (l : List Int) : Int := if mayI day loc fl ts l = true then (if goesB fl day = true then 0 else 15) else 2
/-- the i-th ticket of a sale -/
def tkI (day : Int) (loc : ByteArray) (fl : List Cpn) (ts : List Txx) (fst : Int) (i : Nat) (n : Int) : Tk := ⟨n, loc, day, ((fl.map soldC).drop (4 * i)).take 4, if i = 0 then ts else [], 0, n, fst, 0, 1, []⟩
/-- the posting of a ticket that is sold -/
def poI (day : Int) (t : Tk) : Pst := ⟨day, t.num, 1, 1, valN [1] t.cs + Tkt.taxI t.ts, -valN [1] t.cs, 0, -Tkt.taxI t.ts, 0, 0⟩
/-- the tickets of the numbers that are left -/
def tksI (day : Int) (loc : ByteArray) (fl : List Cpn) (ts : List Txx) (fst : Int) : Nat → List Int → List Tk
  | _, [] => []
  | i, n :: r => tkI day loc fl ts fst i n :: tksI day loc fl ts fst (i + 1) r
theorem goes_map : ∀ (l : List Cpn) (d : Int), goesB (l.map soldC) d = goesB l d
  | [], _ => rfl
  | y :: r, d => by
    show (decide (d ≤ y.dy) && goesB (r.map soldC) y.dy) = (decide (d ≤ y.dy) && goesB r y.dy)
    rw [goes_map r]
theorem row_sold {l : List Cpn} {most : Int} (h : rowB l most = true) : ∀ y ∈ l, soldB y = true := by
  unfold rowB at h
  simp only [Bool.and_eq_true, List.all_eq_true] at h
  exact h.1
theorem row_len {l : List Cpn} {most : Int} (h : rowB l most = true) : 1 ≤ (l.length : Int) ∧ (l.length : Int) ≤ most := by
  unfold rowB at h
  simp only [Bool.and_eq_true, decide_eq_true_eq] at h
  exact h.2
theorem sold_va {y : Cpn} (h : soldB y = true) : 0 ≤ y.va ∧ y.va ≤ 1000000000000 := by
  unfold soldB Tkt.someB at h
  simp only [Bool.and_eq_true, decide_eq_true_eq] at h
  omega
theorem row_va {l : List Cpn} {most : Int} (h : rowB l most = true) : ∀ y ∈ l.map soldC, 0 ≤ y.va ∧ y.va ≤ 1000000000000 := fun y hy => by
  obtain ⟨x, hx, rfl⟩ := List.mem_map.1 hy
  exact sold_va (y := x) (row_sold h x hx)
theorem tax_am : ∀ (d : Int) (l : List Txx), taxB d l = true → ∀ y ∈ l, 0 ≤ y.am ∧ y.am ≤ 1000000000000
  | d, [], _ => by simp
  | d, x :: r, h => by
    unfold taxB Tkt.someB at h
    simp only [Bool.and_eq_true, decide_eq_true_eq] at h
    intro y hy
    rcases List.mem_cons.1 hy with rfl | hy
    · omega
    · exact tax_am _ r h.2 y hy
theorem taxed_am {l : List Txx} (h : taxedB l = true) : (∀ y ∈ l, 0 ≤ y.am ∧ y.am ≤ 1000000000000) ∧ l.length ≤ 4 := by
  unfold taxedB at h
  simp only [Bool.and_eq_true, decide_eq_true_eq] at h
  exact ⟨tax_am 0 l h.1, by omega⟩
theorem tksI_snoc (day : Int) (loc : ByteArray) (fl : List Cpn) (ts : List Txx) (fst : Int) : ∀ (i : Nat) (l : List Int) (n : Int), tksI day loc fl ts fst i (l ++ [n]) = tksI day loc fl ts fst i l ++ [tkI day loc fl ts fst (i + l.length) n]
  | i, [], n => rfl
  | i, x :: r, n => by
    show tkI day loc fl ts fst i x :: tksI day loc fl ts fst (i + 1) (r ++ [n]) = _
    rw [tksI_snoc day loc fl ts fst (i + 1) r n]
    show _ = tkI day loc fl ts fst i x :: (tksI day loc fl ts fst (i + 1) r ++ _)
    rw [List.length_cons, show i + 1 + r.length = i + (r.length + 1) by omega]
end Dk
end Go.Proofs.Ytadabjkhiaidcaa
end
