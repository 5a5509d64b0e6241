/- How an argument reads whose type is a struct of structs, numbers, strings, truths and slices: leaf by leaf; and a slice of such records. Tickets and steps handed in as arguments; rows that are written over. -/
import Derived.Test.YtadabjkhiaidcaaDsl2
import Derived.Deep.Slices
import Derived.Deep.Strs
import Derived.Test.YtadabjkhiaidcaaDsl20
import Derived.Test.YtadabjkhiaidcaaDsl1

section
set_option linter.unusedVariables false
set_option linter.unusedSimpArgs false
namespace Go.Proofs.Ytadabjkhiaidcaa
open Go.ChangeShapes Go.WideShapes Go.ChangeAt Go.RowKit Go.Deep

inductive Leaf where
  | int (k : IntKind)
  | str
  | bool
  | other (t : TypeId)

def offsB (P : Program) : List Field → List (List Leaf) → Nat → Bool
  | [], [], _ => true
  | f :: fs, l :: ls, o => f.offset == o && P.cellsOf f.type == l.length && offsB P fs ls (o + l.length)
  | _, _, _ => false

def leaves (P : Program) : Nat → TypeId → Option (List Leaf)
  | 0, _ => none
  | n + 1, t => match P.underlying t with
    | some (.int k) => some [.int k]
    | some .string => some [.str]
    | some .bool => some [.bool]
    | some (.struct fs) => match fs.toList.mapM (fun f => leaves P n f.type) with
      | some ls => if offsB P fs.toList ls 0 && P.cellsOf t == ls.flatten.length then some ls.flatten else none
      | none => none
    | some (.slice _) => some [.other t]
    | _ => none

section
variable {H : Type} {enc : TypeId × Value → H} {P : Program} {W : World} {held : Bool}

def Leaf.ok (enc : TypeId × Value → H) (P : Program) (W : World) (held : Bool) : Leaf → Value → Prop
  | .int k, v => ∃ z, v = .int k z ∧ (Lit.int k z).wf = true
  | .str, v => ∃ s : ByteArray, v = .string s ∧ s.size ≤ maxLen
  | .bool, v => ∃ b, v = .bool b
  | .other t, v => ∃ n x, DataW.trod enc P W 0 (fun _ => true) held n t [v] = some x

def AllOk (enc : TypeId × Value → H) (P : Program) (W : World) (held : Bool) : List Leaf → List Value → Prop
  | [], [] => True
  | l :: ls, v :: vs => l.ok enc P W held v ∧ AllOk enc P W held ls vs
  | _, _ => False

theorem AllOk.length : ∀ {ls : List Leaf} {vs : List Value}, AllOk enc P W held ls vs → vs.length = ls.length
  | [], [], _ => rfl
  | _ :: _, _ :: _, h => by simpa using AllOk.length h.2
  | [], _ :: _, h => h.elim
  | _ :: _, [], h => h.elim
theorem AllOk.append : ∀ {ls : List Leaf} {vs : List Value} {ms : List Leaf} {us : List Value}, AllOk enc P W held ls vs → AllOk enc P W held ms us → AllOk enc P W held (ls ++ ms) (vs ++ us)
  | [], [], _, _, _, k => k
  | _ :: _, _ :: _, _, _, h, k => ⟨h.1, AllOk.append h.2 k⟩
  | [], _ :: _, _, _, h, _ => h.elim
  | _ :: _, [], _, _, h, _ => h.elim

theorem fields_ok (cs : List Value) : ∀ (fs : List Field) (ls : List (List Leaf)) (o : Nat), offsB P fs ls o = true → (∀ (i : Nat) (f : Field) (l : List Leaf), fs[i]? = some f → ls[i]? = some l → AllOk enc P W held l ((cs.drop f.offset).take (P.cellsOf f.type))) →
    cs.length = o + ls.flatten.length → AllOk enc P W held ls.flatten (cs.drop o) := by
  intro fs
  induction fs with
  | nil =>
    intro ls o ho _ hl
    cases ls with
    | nil =>
      rw [List.drop_of_length_le (by simp at hl; omega)]
      trivial
    | cons l ls => simp [offsB] at ho
  | cons f fs ih =>
    intro ls o ho hf hl
    cases ls with
    | nil => simp [offsB] at ho
    | cons l ls =>
      simp only [offsB, Bool.and_eq_true, beq_iff_eq] at ho
      obtain ⟨⟨h1, h2⟩, h3⟩ := ho
      have h4 := hf 0 f l rfl rfl
      rw [h1, h2] at h4
      have h5 := ih ls (o + l.length) h3 (fun i g m hg hm => hf (i + 1) g m (by simpa using hg) (by simpa using hm)) (by simp at hl; simp; omega)
      have h6 := h4.append h5
      rw [← List.drop_drop, List.take_append_drop] at h6
      simpa using h6

theorem trod_leaves : ∀ (n : Nat) (t : TypeId) (ls : List Leaf), leaves P n t = some ls → ∀ (fuel : Nat) (cs : List Value) (x : DataW H × List MemPlace), DataW.trod enc P W 0 (fun _ => true) held fuel t cs = some x → AllOk enc P W held ls cs := by
  intro n
  induction n with
  | zero => intro t ls h; simp [leaves] at h
  | succ n ih =>
    intro t ls h fuel cs x hx
    unfold leaves at h
    split at h
    · rename_i k hu
      injection h with h; subst h
      obtain ⟨z, rfl, _, hw⟩ := DataW.trod_int hu hx
      exact ⟨⟨z, rfl, hw⟩, trivial⟩
    · rename_i hu
      injection h with h; subst h
      obtain ⟨s, rfl, _, hw⟩ := DataW.trod_string hu hx
      exact ⟨⟨s, rfl, hw⟩, trivial⟩
    · rename_i hu
      injection h with h; subst h
      obtain ⟨b, rfl, _⟩ := DataW.trod_bool hu hx
      exact ⟨⟨b, rfl⟩, trivial⟩
    · rename_i fs hu
      split at h
      · rename_i lls hm
        split at h
        · rename_i hc
          injection h with h; subst h
          simp only [Bool.and_eq_true, beq_iff_eq] at hc
          obtain ⟨xs, m, rfl, rfl, hl, hxl, hf⟩ := DataW.trod_struct hu hx
          have := fields_ok (enc := enc) (P := P) (W := W) (held := held) cs fs.toList lls 0 hc.1 (fun i f l hi hli => by
            have h1 := hf i f (by simpa using hi)
            have hlt : i < fs.size := by
              rcases Nat.lt_or_ge i fs.size with h | h
              · exact h
              · simp [h] at hi
            rw [List.getElem?_eq_getElem (by omega)] at h1
            have h2 := mapM_some_get hm i f hi
            rw [hli] at h2
            exact ih f.type l h2 _ _ _ h1) (by rw [hl, hc.2, Nat.zero_add])
          simpa using this
        · cases h
      · cases h
    · rename_i e hu
      injection h with h; subst h
      rcases DataW.trod_slice hu hx with ⟨rfl, _⟩ | ⟨a, len, cap, _, _, _, _, rfl, _⟩
      · exact ⟨⟨fuel, x, hx⟩, trivial⟩
      · exact ⟨⟨fuel, x, hx⟩, trivial⟩
    · cases h

theorem open_leaves {r : Reach} {b0 n : Nat} {t : TypeId} {fs : Array Field} {ls : List Leaf} {v : Value} {d : DataW H} {ps : List MemPlace} (hu : P.underlying t = some (.struct fs)) (hl : leaves P n t = some ls) (hv : Value.okWide P W r b0 t v)
    (h : DataW.Trod enc P W 0 (fun _ => true) held t v d ps) : ∃ cs : List Value, v = .agg cs.toArray ∧ AllOk enc P W held ls cs := by
  obtain ⟨cs, rfl, hsz⟩ := okWide_struct hu hv
  obtain ⟨fuel, hf⟩ := h
  exact ⟨cs.toList, by simp, trod_leaves n t ls hl fuel _ _ hf⟩

theorem wide_cellsS {w : World} {a : Addr} {cs : List Value} {n : Nat} (hn : cs.length = n) (h : ∀ j, j < n → w.cell? (a.add j) = cs[j]?) (h0 : 0 < n) :
    ∃ b o, a = ⟨b, o, none⟩ ∧ b < w.heap.size ∧ ∀ j, j < n → w.cell? ⟨b, o + j, none⟩ = cs[j]? := by
  have e0 := h 0 h0
  rw [List.getElem?_eq_getElem (by omega)] at e0
  have h1 := cell_blockW e0
  have h2 : (a.add 0).spot = none := by
    unfold World.cell? at e0
    split at e0
    · split at e0
      · cases e0
      · rename_i hn
        cases hs : (a.add 0).spot with
        | none => rfl
        | some z => simp [hs] at hn
    · cases e0
  obtain ⟨b, o, s⟩ := a
  have h2' : s = none := by simpa [Addr.add] using h2
  subst h2'
  refine ⟨b, o, rfl, by simpa [Addr.add] using h1, fun j hj => ?_⟩
  have := h j hj
  rw [Go.WideShapes.add_plain] at this
  exact this
/-- a slice of records, leaf by leaf -/
theorem open_rows {n fuel : Nat} {t e : TypeId} {ls : List Leaf} {v : Value} {x : DataW H × List MemPlace} (ht : P.underlying t = some (.slice e)) (hl : leaves P n e = some ls) (hc : P.cellsOf e = ls.length) (hpos : 0 < ls.length)
    (h : DataW.trod enc P W 0 (fun _ => true) held fuel t [v] = some x) : ∃ rows : List (List Value), LS (fun r => r) ls.length W v rows ∧ ∀ r ∈ rows, AllOk enc P W held ls r := by
  rcases open_slice ht h with ⟨h0, _⟩ | ⟨a, len, cap, m, k, D, Pl, h0, hb, hle, hm, hmm, hx, hi⟩
  · injection h0 with h0 _
    subst h0
    exact ⟨[], LS.nil W, fun r hr => absurd hr (by simp)⟩
  · injection h0 with h0 _
    subst h0
    simp only [ite_true] at hmm
    subst hmm
    have key : ∀ i, i < len → ∃ r : List Value, AllOk enc P W held ls r ∧ ∀ j, j < ls.length → W.cell? ((a.add (i * ls.length)).add j) = r[j]? := by
      intro i hil
      obtain ⟨cs', h1, h2⟩ := hi i (by omega)
      rw [hc] at h1
      obtain ⟨_, _, hcell⟩ := World.cells?_some h1
      exact ⟨cs', trod_leaves n e ls hl _ _ _ h2, hcell⟩
    obtain ⟨f, hf⟩ := choose_lt key
    refine ⟨(List.range len).map f, ⟨some a, m, by simp, by simpa using hle, hm, fun hne => ?_⟩, fun r hr => ?_⟩
    · have hp : 0 < len := by
        rcases Nat.eq_zero_or_pos len with h | h
        · subst h; simp at hne
        · exact h
      obtain ⟨b, o, he, hlt, _⟩ := wide_cellsS (n := ls.length) (cs := f 0) (hf 0 hp).1.length (hf 0 hp).2 hpos
      rw [Nat.zero_mul] at he
      have ha : a = ⟨b, o, none⟩ := by simpa [Addr.add] using he
      subst ha
      refine ⟨b, o, rfl, hlt, fun i x hx j u hu => ?_⟩
      rw [List.getElem?_map] at hx
      rcases Nat.lt_or_ge i len with hil | hil
      · rw [List.getElem?_range hil] at hx
        injection hx with hx
        subst hx
        have hj : j < ls.length := by have := (List.getElem?_eq_some_iff.1 hu).1; rwa [(hf i hil).1.length] at this
        have hg := (hf i hil).2 j hj
        rw [Go.WideShapes.add_plain, Go.WideShapes.add_plain] at hg
        rw [hg, hu]
      · rw [List.getElem?_eq_none (by simpa using hil)] at hx
        cases hx
    · obtain ⟨i, hi, rfl⟩ := List.mem_map.1 hr
      exact (hf i (List.mem_range.1 hi)).1

/-- numbers of some kinds -/
def IntsOk : List IntKind → List Int → Prop
  | [], [] => True
  | k :: ks, z :: zs => (Lit.int k z).wf = true ∧ IntsOk ks zs
  | _, _ => False
def encI : List IntKind → List Int → List Value
  | k :: ks, z :: zs => .int k z :: encI ks zs
  | _, _ => []
theorem ints_of_all : ∀ {ks : List IntKind} {cs : List Value}, AllOk enc P W held (ks.map .int) cs → ∃ zs, IntsOk ks zs ∧ cs = encI ks zs
  | [], [], _ => ⟨[], trivial, rfl⟩
  | k :: ks, c :: cs, h => by
    obtain ⟨⟨z, rfl, hw⟩, h2⟩ := h
    obtain ⟨zs, h3, rfl⟩ := ints_of_all (ks := ks) h2
    exact ⟨z :: zs, ⟨hw, h3⟩, rfl⟩
  | [], _ :: _, h => h.elim
  | _ :: _, [], h => h.elim
theorem LS.of_rows {α : Type} {en : α → List Value} {n : Nat} {v : Value} {l : List α} (h : LS (fun r => r) n W v (l.map en)) : LS en n W v l := by
  obtain ⟨p, cap, rfl, h1, h2, h3⟩ := h
  refine ⟨p, cap, by simp, by simpa using h1, h2, fun hl => ?_⟩
  obtain ⟨b, o, e, hb, hc⟩ := h3 (by simpa using hl)
  exact ⟨b, o, e, hb, fun i x hx => hc i (en x) (by rw [List.getElem?_map, hx]; rfl)⟩
/-- a slice of records of numbers -/
theorem open_recs {α : Type} {en : α → List Value} {n fuel : Nat} {t e : TypeId} {ks : List IntKind} {v : Value} {x : DataW H × List MemPlace} (Q : α → Prop) (of : ∀ zs, IntsOk ks zs → ∃ a, en a = encI ks zs ∧ Q a) (ht : P.underlying t = some (.slice e))
    (hl : leaves P n e = some (ks.map .int)) (hc : P.cellsOf e = ks.length) (hpos : 0 < ks.length) (h : DataW.trod enc P W 0 (fun _ => true) held fuel t [v] = some x) : ∃ l : List α, LS en ks.length W v l ∧ ∀ a ∈ l, Q a := by
  obtain ⟨rows, h1, h2⟩ := open_rows ht hl (by simpa using hc) (by simpa using hpos) h
  have key : ∀ rows : List (List Value), (∀ r ∈ rows, AllOk enc P W held (ks.map .int) r) → ∃ l : List α, rows = l.map en ∧ ∀ a ∈ l, Q a := by
    intro rows
    induction rows with
    | nil => intro _; exact ⟨[], rfl, fun a ha => absurd ha (by simp)⟩
    | cons r rows ih =>
      intro hr
      obtain ⟨l, hl1, hl2⟩ := ih (fun q hq => hr q (by simp [hq]))
      obtain ⟨zs, hz, hz2⟩ := ints_of_all (hr r (by simp))
      obtain ⟨a, ha, hq⟩ := of zs hz
      refine ⟨a :: l, by rw [hl1, hz2, ← ha]; rfl, fun b hb => ?_⟩
      rcases List.mem_cons.1 hb with rfl | hb
      · exact hq
      · exact hl2 b hb
  obtain ⟨l, hl1, hl2⟩ := key rows h2
  subst hl1
  rw [List.length_map] at h1
  exact ⟨l, h1.of_rows, hl2⟩
end
end Go.Proofs.Ytadabjkhiaidcaa
end

section
set_option linter.unusedVariables false
set_option linter.unusedSimpArgs false
namespace Go.Proofs.Ytadabjkhiaidcaa
open Go.ChangeShapes Go.WideShapes Go.ChangeAt Go.RowKit Go.Deep

theorem u64_wfT {z : Int} (h : (Lit.int .u64 z).wf = true) : U64 z := by
  simpa [U64, Lit.wf, IntKind.min, IntKind.max, IntKind.signed, IntKind.bits] using h
theorem i64_wfT {z : Int} (h : (Lit.int .i64 z).wf = true) : I64 z := by
  simpa [I64, Lit.wf, IntKind.min, IntKind.max, IntKind.signed, IntKind.bits] using h
theorem IntsOk.consT {k : IntKind} {ks : List IntKind} : ∀ {zs : List Int}, IntsOk (k :: ks) zs → ∃ z r, zs = z :: r ∧ (Lit.int k z).wf = true ∧ IntsOk ks r
  | z :: r, h => ⟨z, r, rfl, h.1, h.2⟩
  | [], h => h.elim
theorem IntsOk.nilT : ∀ {zs : List Int}, IntsOk [] zs → zs = []
  | [], _ => rfl
  | _ :: _, h => h.elim
def tkLs : List Leaf := [.int .u64, .str, .int .i64, .other 22, .other 23, .int .u64, .int .u64, .int .u64, .int .i64, .int .i64, .other 43]
theorem tk_leaves : leaves Try.prog 5 45 = some tkLs := by kernel_rfl
theorem cp_leaves : leaves Try.prog 4 37 = some ([.i64, .i64, .i64, .i64, .i64, .u64].map .int) := by kernel_rfl
theorem tx_leaves : leaves Try.prog 4 56 = some ([.i64, .i64].map .int) := by kernel_rfl
theorem ev_leaves : leaves Try.prog 4 96 = some ([.i64, .i64, .i64, .i64].map .int) := by kernel_rfl
section
variable {H : Type} {enc : TypeId × Value → H} {W : World} {held : Bool}
theorem open_cpns {fuel : Nat} {v : Value} {x : DataW H × List MemPlace} (h : DataW.trod enc Try.prog W 0 (fun _ => true) held fuel 22 [v] = some x) : ∃ l : List Cpn, LS Cpn.cells 6 W v l ∧ ∀ y ∈ l, y.wf :=
  open_recs (n := 4) (ks := [.i64, .i64, .i64, .i64, .i64, .u64]) (fun y : Cpn => y.wf) (fun zs hz => by
    obtain ⟨z0, r0, rfl, w0, h⟩ := hz.consT
    obtain ⟨z1, r1, rfl, w1, h⟩ := h.consT
    obtain ⟨z2, r2, rfl, w2, h⟩ := h.consT
    obtain ⟨z3, r3, rfl, w3, h⟩ := h.consT
    obtain ⟨z4, r4, rfl, w4, h⟩ := h.consT
    obtain ⟨z5, r5, rfl, w5, h⟩ := h.consT
    obtain rfl := h.nilT
    exact ⟨⟨z0, z1, z2, z3, z4, z5⟩, rfl, i64_wfT w0, i64_wfT w1, i64_wfT w2, i64_wfT w3, i64_wfT w4, u64_wfT w5⟩) Try.underlying22 cp_leaves (by kernel_rfl) (by decide) h
theorem open_txxs {fuel : Nat} {v : Value} {x : DataW H × List MemPlace} (h : DataW.trod enc Try.prog W 0 (fun _ => true) held fuel 23 [v] = some x) : ∃ l : List Txx, LS Txx.cells 2 W v l ∧ ∀ y ∈ l, y.wf :=
  open_recs (n := 4) (ks := [.i64, .i64]) (fun y : Txx => y.wf) (fun zs hz => by
    obtain ⟨z0, r0, rfl, w0, h⟩ := hz.consT
    obtain ⟨z1, r1, rfl, w1, h⟩ := h.consT
    obtain rfl := h.nilT
    exact ⟨⟨z0, z1⟩, rfl, i64_wfT w0, i64_wfT w1⟩) Try.underlying23 tx_leaves (by kernel_rfl) (by decide) h
theorem open_evts {fuel : Nat} {v : Value} {x : DataW H × List MemPlace} (h : DataW.trod enc Try.prog W 0 (fun _ => true) held fuel 43 [v] = some x) : ∃ l : List Evt, LS Evt.cells 4 W v l ∧ ∀ y ∈ l, y.wf :=
  open_recs (n := 4) (ks := [.i64, .i64, .i64, .i64]) (fun y : Evt => y.wf) (fun zs hz => by
    obtain ⟨z0, r0, rfl, w0, h⟩ := hz.consT
    obtain ⟨z1, r1, rfl, w1, h⟩ := h.consT
    obtain ⟨z2, r2, rfl, w2, h⟩ := h.consT
    obtain ⟨z3, r3, rfl, w3, h⟩ := h.consT
    obtain rfl := h.nilT
    exact ⟨⟨z0, z1, z2, z3⟩, rfl, i64_wfT w0, i64_wfT w1, i64_wfT w2, i64_wfT w3⟩) Try.underlying43 ev_leaves (by kernel_rfl) (by decide) h
theorem AllOk.consT {l : Leaf} {ls : List Leaf} : ∀ {cs : List Value}, AllOk enc Try.prog W held (l :: ls) cs → ∃ v vs, cs = v :: vs ∧ l.ok enc Try.prog W held v ∧ AllOk enc Try.prog W held ls vs
  | v :: vs, h => ⟨v, vs, rfl, h.1, h.2⟩
  | [], h => h.elim
theorem AllOk.nilT : ∀ {cs : List Value}, AllOk enc Try.prog W held [] cs → cs = []
  | [], _ => rfl
  | _ :: _, h => h.elim
set_option maxRecDepth 10000 in
theorem open_ticket {r : Reach} {b0 : Nat} {v : Value} {d : DataW H} {ps : List MemPlace} (hv : Value.okWide Try.prog W r b0 45 v) (h : DataW.Trod enc Try.prog W 0 (fun _ => true) held 45 v d ps) :
    ∃ (t : Tk) (c x h : Sl), v = .agg #[.int .u64 t.num, .string t.loc, .int .i64 t.iss, .slice c.p c.n c.c, .slice x.p x.n x.c, .int .u64 t.prev, .int .u64 t.org, .int .u64 t.fst, .int .i64 t.vou, .int .i64 t.posts, .slice h.p h.n h.c] ∧ TS W t c x h := by
  obtain ⟨cs, rfl, hc⟩ := open_leaves Try.underlying45 tk_leaves hv h
  unfold tkLs at hc
  obtain ⟨v0, r0, rfl, m0, hc⟩ := hc.consT
  obtain ⟨v1, r1, rfl, m1, hc⟩ := hc.consT
  obtain ⟨v2, r2, rfl, m2, hc⟩ := hc.consT
  obtain ⟨v3, r3, rfl, m3, hc⟩ := hc.consT
  obtain ⟨v4, r4, rfl, m4, hc⟩ := hc.consT
  obtain ⟨v5, r5, rfl, m5, hc⟩ := hc.consT
  obtain ⟨v6, r6, rfl, m6, hc⟩ := hc.consT
  obtain ⟨v7, r7, rfl, m7, hc⟩ := hc.consT
  obtain ⟨v8, r8, rfl, m8, hc⟩ := hc.consT
  obtain ⟨v9, r9, rfl, m9, hc⟩ := hc.consT
  obtain ⟨v10, r10, rfl, m10, hc⟩ := hc.consT
  obtain rfl := hc.nilT
  obtain ⟨z0, rfl, w0⟩ := m0
  obtain ⟨s1, rfl, w1⟩ := m1
  obtain ⟨z2, rfl, w2⟩ := m2
  obtain ⟨n3, x3, h3⟩ := m3
  obtain ⟨n4, x4, h4⟩ := m4
  obtain ⟨z5, rfl, w5⟩ := m5
  obtain ⟨z6, rfl, w6⟩ := m6
  obtain ⟨z7, rfl, w7⟩ := m7
  obtain ⟨z8, rfl, w8⟩ := m8
  obtain ⟨z9, rfl, w9⟩ := m9
  obtain ⟨n10, x10, h10⟩ := m10
  obtain ⟨l3, g3, k3⟩ := open_cpns h3
  obtain ⟨l4, g4, k4⟩ := open_txxs h4
  obtain ⟨l10, g10, k10⟩ := open_evts h10
  obtain ⟨p3, c3, rfl⟩ := g3.shape
  obtain ⟨p4, c4, rfl⟩ := g4.shape
  obtain ⟨p10, c10, rfl⟩ := g10.shape
  exact ⟨⟨z0, s1, z2, l3, l4, z5, z6, z7, z8, z9, l10⟩, ⟨p3, _, c3⟩, ⟨p4, _, c4⟩, ⟨p10, _, c10⟩, rfl, ⟨g3, g4, g10, ⟨u64_wfT w0, w1, i64_wfT w2, k3, k4, u64_wfT w5, u64_wfT w6, u64_wfT w7, i64_wfT w8, i64_wfT w9, k10⟩⟩⟩
end
/-- a row of a caller's own, as far as it is to be written over -/
def RowOf (B : Nat) (w : World) (p : Option Addr) (e : TypeId) (s : Nat) : Prop := ∀ b, p = some ⟨b, 0, none⟩ → B ≤ b ∧ ∃ cs, w.heap[b]? = some (.cells cs e (0, 0)) ∧ s ≤ cs.size
theorem heap_setCells_sameT : ∀ (vs : List Value) (w : World) (g o : Nat) (cs : Array Value) (e : TypeId), w.heap[g]? = some (.cells cs e (0, 0)) → ∃ ds, (w.setCells g o vs).heap[g]? = some (.cells ds e (0, 0)) ∧ ds.size = cs.size
  | [], _, _, _, cs, _, h => ⟨cs, h, rfl⟩
  | u :: r, w, g, o, cs, e, h => by
    rw [World.setCells]
    obtain ⟨ds, h1, h2⟩ := heap_setCells_sameT r _ g (o + 1) _ e (heap_setCell_same w g o _ _ u h)
    exact ⟨ds, h1, by rw [h2]; simp⟩
theorem RowOf.setCells {B : Nat} {w : World} {p : Option Addr} {e : TypeId} {s : Nat} (h : RowOf B w p e s) (g o : Nat) (vs : List Value) : RowOf B (w.setCells g o vs) p e s := fun b hb => by
  obtain ⟨h1, cs, h2, h3⟩ := h b hb
  refine ⟨h1, ?_⟩
  by_cases hg : b = g
  · subst hg
    obtain ⟨ds, k1, k2⟩ := heap_setCells_sameT vs w b o cs e h2
    exact ⟨ds, k1, by omega⟩
  · exact ⟨cs, (((Only.refl g w).setCells o vs).block b (block_lt h2) hg).trans h2, h3⟩
theorem RowOf.below {B : Nat} {w w' : World} {p : Option Addr} {e : TypeId} {s : Nat} (h : RowOf B w p e s) (hb : Below w.heap.size w w') : RowOf B w' p e s := fun b hp => by
  obtain ⟨h1, cs, h2, h3⟩ := h b hp
  exact ⟨h1, cs, (hb.block b (block_lt h2)).trans h2, h3⟩
theorem RowOf.of_own {B n m : Nat} {w : World} {p : Option Addr} {k c : Nat} {e : TypeId} {xs : List Value} (h : w.ownsRow B e n (.slice p k c) m xs) : RowOf B w p e (m * n) := fun b hb => by
  subst hb
  obtain ⟨hl, ⟨h1, -⟩ | ⟨g, cap, cur, e1, hg, hh, hnc, hcm, hcs, -⟩⟩ := h
  · cases h1
  · injection e1 with e1 e2 e3
    injection e1 with e1
    injection e1 with e1
    subst e1
    exact ⟨hg, cur, hh, by rw [hcs]; exact Nat.mul_le_mul_right n hnc⟩
theorem RowOf.there {B : Nat} {w : World} {b : Nat} {e : TypeId} {s o n : Nat} (h : RowOf B w (some ⟨b, 0, none⟩) e s) (hs : o + n ≤ s) : w.there b o n := fun j hj => by
  obtain ⟨-, cs, h2, h3⟩ := h b rfl
  refine ⟨?_, frozen_of_row _ _ _ _ _ h2⟩
  rw [cell_of_row _ _ _ _ _ _ h2]
  simp
  omega
end Go.Proofs.Ytadabjkhiaidcaa
end
