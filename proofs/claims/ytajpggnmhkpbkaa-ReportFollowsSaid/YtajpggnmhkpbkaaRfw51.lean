/- An argument that is a report, read as its days, rows and totals. How an argument reads whose type is a struct of structs, numbers, strings, truths and slices: leaf by leaf; and a slice of such records. -/
import Derived.Test.YtajpggnmhkpbkaaRfw8
import Derived.Test.YtajpggnmhkpbkaaRfw13
import Derived.Deep.Slices
import Derived.Deep.Strs

section
set_option linter.unusedVariables false
set_option linter.unusedSimpArgs false
namespace Go.Proofs.Ytajpggnmhkpbkaa
open Go.ChangeShapes Go.WideShapes Go.ChangeAt Go.RowKit Go.Deep

theorem repCells : Try.prog.cellsOf 43 = 10 := by kernel_rfl
theorem totCells : Try.prog.cellsOf 41 = 7 := by kernel_rfl
section
variable {H : Type} {enc : TypeId × Value → H} {W : World} {held : Bool}
set_option maxRecDepth 10000 in
theorem open_totals {n : Nat} {cs : List Value} {x : DataW H × List MemPlace} (h : DataW.trod enc Try.prog W 0 (fun _ => true) held n 41 cs = some x) :
    ∃ m x0 x1 x2 x3 x4 x5 : Int, cs = [.int .i64 m, .int .i64 x0, .int .i64 x1, .int .i64 x2, .int .i64 x3, .int .i64 x4, .int .i64 x5] := by
  obtain ⟨xs, m, _, hx, hl, hxl, hf⟩ := DataW.trod_struct Try.underlying41 h
  rw [totCells] at hl
  match cs, hl with
  | [c0, c1, c2, c3, c4, c5, c6], _ =>
    have g : ∀ i, i < 7 → ∃ y, xs[i]? = some y := fun i hi => ⟨_, List.getElem?_eq_getElem (by simp at hxl; omega)⟩
    obtain ⟨y0, e0⟩ := g 0 (by omega)
    obtain ⟨y1, e1⟩ := g 1 (by omega)
    obtain ⟨y2, e2⟩ := g 2 (by omega)
    obtain ⟨y3, e3⟩ := g 3 (by omega)
    obtain ⟨y4, e4⟩ := g 4 (by omega)
    obtain ⟨y5, e5⟩ := g 5 (by omega)
    obtain ⟨y6, e6⟩ := g 6 (by omega)
    obtain ⟨z0, f0, -, w0⟩ := DataW.trod_int (k := .i64) Try.underlying3 ((hf 0 _ rfl).trans e0)
    obtain ⟨z1, f1, -, w1⟩ := DataW.trod_int (k := .i64) Try.underlying2 ((hf 1 _ rfl).trans e1)
    obtain ⟨z2, f2, -, w2⟩ := DataW.trod_int (k := .i64) Try.underlying2 ((hf 2 _ rfl).trans e2)
    obtain ⟨z3, f3, -, w3⟩ := DataW.trod_int (k := .i64) Try.underlying2 ((hf 3 _ rfl).trans e3)
    obtain ⟨z4, f4, -, w4⟩ := DataW.trod_int (k := .i64) Try.underlying2 ((hf 4 _ rfl).trans e4)
    obtain ⟨z5, f5, -, w5⟩ := DataW.trod_int (k := .i64) Try.underlying2 ((hf 5 _ rfl).trans e5)
    obtain ⟨z6, f6, -, w6⟩ := DataW.trod_int (k := .i64) Try.underlying2 ((hf 6 _ rfl).trans e6)
    have c1i : Try.prog.cellsOf 3 = 1 := by kernel_rfl
    have c1l : Try.prog.cellsOf 2 = 1 := by kernel_rfl
    simp [c1i, c1l] at f0 f1 f2 f3 f4 f5 f6
    subst f0 f1 f2 f3 f4 f5 f6
    exact ⟨z0, z1, z2, z3, z4, z5, z6, rfl⟩

set_option maxRecDepth 10000 in
theorem open_posts_cell {fuel : Nat} {cs : List Value} {x : DataW H × List MemPlace} (hf : DataW.trod enc Try.prog W 0 (fun _ => true) held fuel 38 cs = some x) : ∃ (v : Value) (l : List Pst), cs = [v] ∧ PS W v l := by
  rcases open_slice Try.underlying38 hf with ⟨h0, _⟩ | ⟨a, len, cap, m, n, D, Pl, h0, hb, hl, hm, hmm, hx, hi⟩
  · exact ⟨_, [], h0, none, 0, rfl, Nat.le_refl _, Nat.zero_le _, fun x hx => absurd hx (by simp), fun h => absurd rfl h⟩
  · simp only [ite_true] at hmm
    subst hmm
    have key : ∀ i, i < len → ∃ p : Pst, p.wf ∧ ∀ j, j < 10 → W.cell? ((a.add (i * 10)).add j) = p.cells[j]? := by
      intro i hil
      obtain ⟨cs', h1, h2⟩ := hi i (by omega)
      obtain ⟨p, rfl, hw⟩ := open_post h2
      rw [postCells] at h1
      obtain ⟨_, _, hcell⟩ := World.cells?_some h1
      exact ⟨p, hw, hcell⟩
    have : Inhabited Pst := ⟨⟨0, 0, 0, 0, 0, 0, 0, 0, 0, 0⟩⟩
    obtain ⟨f, hf⟩ := choose_lt key
    refine ⟨_, (List.range len).map f, h0, some a, m, by simp, by simpa using hl, hm, ?_, ?_⟩
    · intro x hx
      obtain ⟨i, hi, rfl⟩ := List.mem_map.1 hx
      exact (hf i (List.mem_range.1 hi)).1
    · intro hne
      have hpos : 0 < len := by
        rcases Nat.eq_zero_or_pos len with h | h
        · subst h; simp at hne
        · exact h
      obtain ⟨b, o, he, hlt, _⟩ := wide_cells (n := 10) (cs := (f 0).cells) rfl (hf 0 hpos).2 (by omega)
      rw [Nat.zero_mul] at he
      have ha : a = ⟨b, o, none⟩ := by simpa [Addr.add] using he
      subst ha
      refine ⟨b, o, rfl, hlt, fun i x hx => ?_⟩
      rw [List.getElem?_map] at hx
      rcases Nat.lt_or_ge i len with hil | hil
      · rw [List.getElem?_range hil] at hx
        injection hx with hx
        subst hx
        have hg := (hf i hil).2
        rw [Go.WideShapes.add_plain] at hg
        have hg' : ∀ j, j < 10 → W.cell? ⟨b, o + i * 10 + j, none⟩ = (f i).cells[j]? := fun j hj => by have := hg j hj; rwa [Go.WideShapes.add_plain] at this
        exact ⟨hg' 0 (by omega), hg' 1 (by omega), hg' 2 (by omega), hg' 3 (by omega), hg' 4 (by omega), hg' 5 (by omega), hg' 6 (by omega), hg' 7 (by omega), hg' 8 (by omega), hg' 9 (by omega)⟩
      · rw [List.getElem?_eq_none (by simpa using hil)] at hx
        cases hx

set_option maxRecDepth 10000 in
theorem open_rep {n : Nat} {cs : List Value} {x : DataW H × List MemPlace} (h : DataW.trod enc Try.prog W 0 (fun _ => true) held n 43 cs = some x) :
    ∃ (a b : Int) (v : Value) (l : List Pst) (m x0 x1 x2 x3 x4 x5 : Int), cs = [.int .i64 a, .int .i64 b, v, .int .i64 m, .int .i64 x0, .int .i64 x1, .int .i64 x2, .int .i64 x3, .int .i64 x4, .int .i64 x5] ∧ PS W v l := by
  obtain ⟨xs, m, _, hx, hl, hxl, hf⟩ := DataW.trod_struct Try.underlying43 h
  rw [repCells] at hl
  match cs, hl with
  | [c0, c1, c2, c3, c4, c5, c6, c7, c8, c9], _ =>
    have g : ∀ i, i < 4 → ∃ y, xs[i]? = some y := fun i hi => ⟨_, List.getElem?_eq_getElem (by simp at hxl; omega)⟩
    obtain ⟨y0, e0⟩ := g 0 (by omega)
    obtain ⟨y1, e1⟩ := g 1 (by omega)
    obtain ⟨y2, e2⟩ := g 2 (by omega)
    obtain ⟨y3, e3⟩ := g 3 (by omega)
    obtain ⟨z0, f0, -, w0⟩ := DataW.trod_int (k := .i64) Try.underlying3 ((hf 0 _ rfl).trans e0)
    obtain ⟨z1, f1, -, w1⟩ := DataW.trod_int (k := .i64) Try.underlying3 ((hf 1 _ rfl).trans e1)
    obtain ⟨v, l, f2, hps⟩ := open_posts_cell ((hf 2 _ rfl).trans e2)
    obtain ⟨m, x0, x1, x2, x3, x4, x5, f3⟩ := open_totals ((hf 3 _ rfl).trans e3)
    have c1i : Try.prog.cellsOf 3 = 1 := by kernel_rfl
    have c1s : Try.prog.cellsOf 38 = 1 := by kernel_rfl
    simp [c1i, c1s, totCells] at f0 f1 f2 f3
    obtain ⟨rfl, rfl, rfl, rfl, rfl, rfl, rfl⟩ := f3
    subst f0 f1 f2
    exact ⟨z0, z1, _, l, _, _, _, _, _, _, _, rfl, hps⟩

set_option maxRecDepth 100000 in
theorem open_report {r : Reach} {b0 : Nat} {v : Value} {d : DataW H} {ps : List MemPlace} (hv : Value.okWide Try.prog W r b0 43 v)
    (h : DataW.Trod enc Try.prog W 0 (fun _ => true) held 43 v d ps) : ∃ (a b : Int) (p : Option Addr) (n cap : Nat) (l : List Pst) (m x0 x1 x2 x3 x4 x5 : Int), v = .agg #[.int .i64 a, .int .i64 b, .slice p n cap, .int .i64 m, .int .i64 x0, .int .i64 x1, .int .i64 x2, .int .i64 x3, .int .i64 x4, .int .i64 x5] ∧ PS W (.slice p n cap) l := by
  obtain ⟨cs, rfl, hsz⟩ := okWide_struct Try.underlying43 hv
  obtain ⟨fuel, hf⟩ := h
  obtain ⟨a, b, v, l, m, x0, x1, x2, x3, x4, x5, hc, hps⟩ := open_rep hf
  obtain ⟨p, cap, rfl, h2, h3⟩ := hps
  refine ⟨a, b, p, l.length, cap, l, m, x0, x1, x2, x3, x4, x5, ?_, p, cap, rfl, h2, h3⟩
  obtain ⟨z⟩ := cs
  have hl : z = _ := hc
  rw [hl]
end
end Go.Proofs.Ytajpggnmhkpbkaa
end

section
set_option linter.unusedVariables false
set_option linter.unusedSimpArgs false
namespace Go.Proofs.Ytajpggnmhkpbkaa
open Go.ChangeShapes Go.WideShapes Go.ChangeAt Go.RowKit Go.Deep

inductive Leaf where
  | int (k : IntKind)
  | str
  | bool
  | other (t : TypeId)

def offsB (P : Program) : List Field → List (List Leaf) → Nat → Bool
  | [], [], _ => true
  | f :: fs, l :: ls, o => f.offset == o && P.cellsOf f.type == l.length && offsB P fs ls (o + l.length)
  | _, _, _ => false

def leaves (P : Program) : Nat → TypeId → Option (List Leaf)
  | 0, _ => none
  | n + 1, t => match P.underlying t with
    | some (.int k) => some [.int k]
    | some .string => some [.str]
    | some .bool => some [.bool]
    | some (.struct fs) => match fs.toList.mapM (fun f => leaves P n f.type) with
      | some ls => if offsB P fs.toList ls 0 && P.cellsOf t == ls.flatten.length then some ls.flatten else none
      | none => none
    | some (.slice _) => some [.other t]
    | _ => none

section
variable {H : Type} {enc : TypeId × Value → H} {P : Program} {W : World} {held : Bool}

def Leaf.ok (enc : TypeId × Value → H) (P : Program) (W : World) (held : Bool) : Leaf → Value → Prop
  | .int k, v => ∃ z, v = .int k z ∧ (Lit.int k z).wf = true
  | .str, v => ∃ s : ByteArray, v = .string s ∧ s.size ≤ maxLen
  | .bool, v => ∃ b, v = .bool b
  | .other t, v => ∃ n x, DataW.trod enc P W 0 (fun _ => true) held n t [v] = some x

def AllOk (enc : TypeId × Value → H) (P : Program) (W : World) (held : Bool) : List Leaf → List Value → Prop
  | [], [] => True
  | l :: ls, v :: vs => l.ok enc P W held v ∧ AllOk enc P W held ls vs
  | _, _ => False

theorem AllOk.length : ∀ {ls : List Leaf} {vs : List Value}, AllOk enc P W held ls vs → vs.length = ls.length
  | [], [], _ => rfl
  | _ :: _, _ :: _, h => by simpa using AllOk.length h.2
  | [], _ :: _, h => h.elim
  | _ :: _, [], h => h.elim
theorem AllOk.append : ∀ {ls : List Leaf} {vs : List Value} {ms : List Leaf} {us : List Value}, AllOk enc P W held ls vs → AllOk enc P W held ms us → AllOk enc P W held (ls ++ ms) (vs ++ us)
  | [], [], _, _, _, k => k
  | _ :: _, _ :: _, _, _, h, k => ⟨h.1, AllOk.append h.2 k⟩
  | [], _ :: _, _, _, h, _ => h.elim
  | _ :: _, [], _, _, h, _ => h.elim

theorem fields_ok (cs : List Value) : ∀ (fs : List Field) (ls : List (List Leaf)) (o : Nat), offsB P fs ls o = true → (∀ (i : Nat) (f : Field) (l : List Leaf), fs[i]? = some f → ls[i]? = some l → AllOk enc P W held l ((cs.drop f.offset).take (P.cellsOf f.type))) →
    cs.length = o + ls.flatten.length → AllOk enc P W held ls.flatten (cs.drop o) := by
  intro fs
  induction fs with
  | nil =>
    intro ls o ho _ hl
    cases ls with
    | nil =>
      rw [List.drop_of_length_le (by simp at hl; omega)]
      trivial
    | cons l ls => simp [offsB] at ho
  | cons f fs ih =>
    intro ls o ho hf hl
    cases ls with
    | nil => simp [offsB] at ho
    | cons l ls =>
      simp only [offsB, Bool.and_eq_true, beq_iff_eq] at ho
      obtain ⟨⟨h1, h2⟩, h3⟩ := ho
      have h4 := hf 0 f l rfl rfl
      rw [h1, h2] at h4
      have h5 := ih ls (o + l.length) h3 (fun i g m hg hm => hf (i + 1) g m (by simpa using hg) (by simpa using hm)) (by simp at hl; simp; omega)
      have h6 := h4.append h5
      rw [← List.drop_drop, List.take_append_drop] at h6
      simpa using h6

theorem trod_leaves : ∀ (n : Nat) (t : TypeId) (ls : List Leaf), leaves P n t = some ls → ∀ (fuel : Nat) (cs : List Value) (x : DataW H × List MemPlace), DataW.trod enc P W 0 (fun _ => true) held fuel t cs = some x → AllOk enc P W held ls cs := by
  intro n
  induction n with
  | zero => intro t ls h; simp [leaves] at h
  | succ n ih =>
    intro t ls h fuel cs x hx
    unfold leaves at h
    split at h
    · rename_i k hu
      injection h with h; subst h
      obtain ⟨z, rfl, _, hw⟩ := DataW.trod_int hu hx
      exact ⟨⟨z, rfl, hw⟩, trivial⟩
    · rename_i hu
      injection h with h; subst h
      obtain ⟨s, rfl, _, hw⟩ := DataW.trod_string hu hx
      exact ⟨⟨s, rfl, hw⟩, trivial⟩
    · rename_i hu
      injection h with h; subst h
      obtain ⟨b, rfl, _⟩ := DataW.trod_bool hu hx
      exact ⟨⟨b, rfl⟩, trivial⟩
    · rename_i fs hu
      split at h
      · rename_i lls hm
        split at h
        · rename_i hc
          injection h with h; subst h
          simp only [Bool.and_eq_true, beq_iff_eq] at hc
          obtain ⟨xs, m, rfl, rfl, hl, hxl, hf⟩ := DataW.trod_struct hu hx
          have := fields_ok (enc := enc) (P := P) (W := W) (held := held) cs fs.toList lls 0 hc.1 (fun i f l hi hli => by
            have h1 := hf i f (by simpa using hi)
            have hlt : i < fs.size := by
              rcases Nat.lt_or_ge i fs.size with h | h
              · exact h
              · simp [h] at hi
            rw [List.getElem?_eq_getElem (by omega)] at h1
            have h2 := mapM_some_get hm i f hi
            rw [hli] at h2
            exact ih f.type l h2 _ _ _ h1) (by rw [hl, hc.2, Nat.zero_add])
          simpa using this
        · cases h
      · cases h
    · rename_i e hu
      injection h with h; subst h
      rcases DataW.trod_slice hu hx with ⟨rfl, _⟩ | ⟨a, len, cap, _, _, _, _, rfl, _⟩
      · exact ⟨⟨fuel, x, hx⟩, trivial⟩
      · exact ⟨⟨fuel, x, hx⟩, trivial⟩
    · cases h

theorem open_leaves {r : Reach} {b0 n : Nat} {t : TypeId} {fs : Array Field} {ls : List Leaf} {v : Value} {d : DataW H} {ps : List MemPlace} (hu : P.underlying t = some (.struct fs)) (hl : leaves P n t = some ls) (hv : Value.okWide P W r b0 t v)
    (h : DataW.Trod enc P W 0 (fun _ => true) held t v d ps) : ∃ cs : List Value, v = .agg cs.toArray ∧ AllOk enc P W held ls cs := by
  obtain ⟨cs, rfl, hsz⟩ := okWide_struct hu hv
  obtain ⟨fuel, hf⟩ := h
  exact ⟨cs.toList, by simp, trod_leaves n t ls hl fuel _ _ hf⟩

theorem wide_cellsS {w : World} {a : Addr} {cs : List Value} {n : Nat} (hn : cs.length = n) (h : ∀ j, j < n → w.cell? (a.add j) = cs[j]?) (h0 : 0 < n) :
    ∃ b o, a = ⟨b, o, none⟩ ∧ b < w.heap.size ∧ ∀ j, j < n → w.cell? ⟨b, o + j, none⟩ = cs[j]? := by
  have e0 := h 0 h0
  rw [List.getElem?_eq_getElem (by omega)] at e0
  have h1 := cell_blockW e0
  have h2 : (a.add 0).spot = none := by
    unfold World.cell? at e0
    split at e0
    · split at e0
      · cases e0
      · rename_i hn
        cases hs : (a.add 0).spot with
        | none => rfl
        | some z => simp [hs] at hn
    · cases e0
  obtain ⟨b, o, s⟩ := a
  have h2' : s = none := by simpa [Addr.add] using h2
  subst h2'
  refine ⟨b, o, rfl, by simpa [Addr.add] using h1, fun j hj => ?_⟩
  have := h j hj
  rw [Go.WideShapes.add_plain] at this
  exact this
/-- a slice of records, leaf by leaf -/
theorem open_rows {n fuel : Nat} {t e : TypeId} {ls : List Leaf} {v : Value} {x : DataW H × List MemPlace} (ht : P.underlying t = some (.slice e)) (hl : leaves P n e = some ls) (hc : P.cellsOf e = ls.length) (hpos : 0 < ls.length)
    (h : DataW.trod enc P W 0 (fun _ => true) held fuel t [v] = some x) : ∃ rows : List (List Value), LS (fun r => r) ls.length W v rows ∧ ∀ r ∈ rows, AllOk enc P W held ls r := by
  rcases open_slice ht h with ⟨h0, _⟩ | ⟨a, len, cap, m, k, D, Pl, h0, hb, hle, hm, hmm, hx, hi⟩
  · injection h0 with h0 _
    subst h0
    exact ⟨[], LS.nil W, fun r hr => absurd hr (by simp)⟩
  · injection h0 with h0 _
    subst h0
    simp only [ite_true] at hmm
    subst hmm
    have key : ∀ i, i < len → ∃ r : List Value, AllOk enc P W held ls r ∧ ∀ j, j < ls.length → W.cell? ((a.add (i * ls.length)).add j) = r[j]? := by
      intro i hil
      obtain ⟨cs', h1, h2⟩ := hi i (by omega)
      rw [hc] at h1
      obtain ⟨_, _, hcell⟩ := World.cells?_some h1
      exact ⟨cs', trod_leaves n e ls hl _ _ _ h2, hcell⟩
    obtain ⟨f, hf⟩ := choose_lt key
    refine ⟨(List.range len).map f, ⟨some a, m, by simp, by simpa using hle, hm, fun hne => ?_⟩, fun r hr => ?_⟩
    · have hp : 0 < len := by
        rcases Nat.eq_zero_or_pos len with h | h
        · subst h; simp at hne
        · exact h
      obtain ⟨b, o, he, hlt, _⟩ := wide_cellsS (n := ls.length) (cs := f 0) (hf 0 hp).1.length (hf 0 hp).2 hpos
      rw [Nat.zero_mul] at he
      have ha : a = ⟨b, o, none⟩ := by simpa [Addr.add] using he
      subst ha
      refine ⟨b, o, rfl, hlt, fun i x hx j u hu => ?_⟩
      rw [List.getElem?_map] at hx
      rcases Nat.lt_or_ge i len with hil | hil
      · rw [List.getElem?_range hil] at hx
        injection hx with hx
        subst hx
        have hj : j < ls.length := by have := (List.getElem?_eq_some_iff.1 hu).1; rwa [(hf i hil).1.length] at this
        have hg := (hf i hil).2 j hj
        rw [Go.WideShapes.add_plain, Go.WideShapes.add_plain] at hg
        rw [hg, hu]
      · rw [List.getElem?_eq_none (by simpa using hil)] at hx
        cases hx
    · obtain ⟨i, hi, rfl⟩ := List.mem_map.1 hr
      exact (hf i (List.mem_range.1 hi)).1

/-- numbers of some kinds -/
def IntsOk : List IntKind → List Int → Prop
  | [], [] => True
  | k :: ks, z :: zs => (Lit.int k z).wf = true ∧ IntsOk ks zs
  | _, _ => False
def encI : List IntKind → List Int → List Value
  | k :: ks, z :: zs => .int k z :: encI ks zs
  | _, _ => []
theorem ints_of_all : ∀ {ks : List IntKind} {cs : List Value}, AllOk enc P W held (ks.map .int) cs → ∃ zs, IntsOk ks zs ∧ cs = encI ks zs
  | [], [], _ => ⟨[], trivial, rfl⟩
  | k :: ks, c :: cs, h => by
    obtain ⟨⟨z, rfl, hw⟩, h2⟩ := h
    obtain ⟨zs, h3, rfl⟩ := ints_of_all (ks := ks) h2
    exact ⟨z :: zs, ⟨hw, h3⟩, rfl⟩
  | [], _ :: _, h => h.elim
  | _ :: _, [], h => h.elim
theorem LS.of_rows {α : Type} {en : α → List Value} {n : Nat} {v : Value} {l : List α} (h : LS (fun r => r) n W v (l.map en)) : LS en n W v l := by
  obtain ⟨p, cap, rfl, h1, h2, h3⟩ := h
  refine ⟨p, cap, by simp, by simpa using h1, h2, fun hl => ?_⟩
  obtain ⟨b, o, e, hb, hc⟩ := h3 (by simpa using hl)
  exact ⟨b, o, e, hb, fun i x hx => hc i (en x) (by rw [List.getElem?_map, hx]; rfl)⟩
/-- a slice of records of numbers -/
theorem open_recs {α : Type} {en : α → List Value} {n fuel : Nat} {t e : TypeId} {ks : List IntKind} {v : Value} {x : DataW H × List MemPlace} (Q : α → Prop) (of : ∀ zs, IntsOk ks zs → ∃ a, en a = encI ks zs ∧ Q a) (ht : P.underlying t = some (.slice e))
    (hl : leaves P n e = some (ks.map .int)) (hc : P.cellsOf e = ks.length) (hpos : 0 < ks.length) (h : DataW.trod enc P W 0 (fun _ => true) held fuel t [v] = some x) : ∃ l : List α, LS en ks.length W v l ∧ ∀ a ∈ l, Q a := by
  obtain ⟨rows, h1, h2⟩ := open_rows ht hl (by simpa using hc) (by simpa using hpos) h
  have key : ∀ rows : List (List Value), (∀ r ∈ rows, AllOk enc P W held (ks.map .int) r) → ∃ l : List α, rows = l.map en ∧ ∀ a ∈ l, Q a := by
    intro rows
    induction rows with
    | nil => intro _; exact ⟨[], rfl, fun a ha => absurd ha (by simp)⟩
    | cons r rows ih =>
      intro hr
      obtain ⟨l, hl1, hl2⟩ := ih (fun q hq => hr q (by simp [hq]))
      obtain ⟨zs, hz, hz2⟩ := ints_of_all (hr r (by simp))
      obtain ⟨a, ha, hq⟩ := of zs hz
      refine ⟨a :: l, by rw [hl1, hz2, ← ha]; rfl, fun b hb => ?_⟩
      rcases List.mem_cons.1 hb with rfl | hb
      · exact hq
      · exact hl2 b hb
  obtain ⟨l, hl1, hl2⟩ := key rows h2
  subst hl1
  rw [List.length_map] at h1
  exact ⟨l, h1.of_rows, hl2⟩
end
end Go.Proofs.Ytajpggnmhkpbkaa
end
