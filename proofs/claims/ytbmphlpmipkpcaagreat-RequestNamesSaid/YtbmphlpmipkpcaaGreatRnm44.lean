/- Contract: the chapter's rows (couponlaw16.known). How an argument reads whose type is a struct of structs, numbers, strings, truths and slices: leaf by leaf; and a slice of such records. -/
import Derived.Test.YtbmphlpmipkpcaaGreatRnm40
import Derived.Test.YtbmphlpmipkpcaaGreatRnm9
import Derived.Test.YtbmphlpmipkpcaaGreatRnm43
import Derived.Test.YtbmphlpmipkpcaaGreatRnm2
import Derived.Deep.Slices
import Derived.Deep.Strs

section
set_option linter.unusedVariables false
set_option linter.unusedSimpArgs false
namespace Go.Proofs.YtbmphlpmipkpcaaGreat
open Go.RowKit Go.Deep

def kRq : Rqt := ⟨⟨#[107, 55]⟩, ⟨#[]⟩, 3, 3, 1230000000014, 0, 0, 0, 0, 0, [], []⟩
theorem kRq_wf : kRq.wf := ⟨by decide, by decide, ⟨by decide, by decide⟩, ⟨by decide, by decide⟩, ⟨by decide, by decide⟩, ⟨by decide, by decide⟩, ⟨by decide, by decide⟩, ⟨by decide, by decide⟩, ⟨by decide, by decide⟩, ⟨by decide, by decide⟩, (by intro c hc; cases hc), (by intro c hc; cases hc)⟩
theorem eqRq_self (x : Rqt) : eqRq x x = true := by
  unfold eqRq bareB; simp
theorem kRq_parts : Rq.partsF kRq.k = [131, 132, 136] := rfl
theorem kRq_may : Rq.mayRq kRq = true := by
  have h1 : Rq.runX (Rq.partsF kRq.k) kRq = Rq.zeroK kRq.k := rfl
  unfold Rq.mayRq
  rw [h1, eqRq_self]
  decide
theorem kRq_st : ∀ f ∈ Rq.partsF kRq.k, ∀ (w0 : World) (g gq : Nat) (gd : Bool) (y : Rqt) (W : World), WSt w0 g gq gd y W → Calls Tryz.prog f #[.pointer (some ⟨g, 0, none⟩)] W fun e w' => e = .returned (.tuple #[]) ∧ WSt w0 g gq (gd && Rq.partB f y) (Rq.partC f y) w' ∧ Rq.KF W w' := by
  intro f hf w0 g gq gd y W h
  rw [kRq_parts] at hf
  simp only [List.mem_cons, List.not_mem_nil, or_false] at hf
  rcases hf with rfl | rfl | rfl
  · exact wst_key h
  · exact wst_on h
  · exact wst_of h
theorem kRq_sw : ∀ f ∈ Rq.partsF kRq.k, Rq.partB f kRq = true ∧ ∀ (w0 : World) (g gq bw k : Nat) (l : List UInt8) (W : World), WPt w0 g gq bw k l kRq W → Rq.partB f kRq = true → k + 400 ≤ 536870912 → Calls Tryz.prog f #[.pointer (some ⟨g, 0, none⟩)] W fun e w' => e = .returned (.tuple #[]) ∧ WPt w0 g gq bw (k + 400) (l ++ Rq.encP f kRq) kRq w' ∧ Rq.KF W w' := by
  intro f hf
  rw [kRq_parts] at hf
  simp only [List.mem_cons, List.not_mem_nil, or_false] at hf
  rcases hf with rfl | rfl | rfl
  · exact ⟨by decide, fun w0 g gq bw k l W h hB hk => wpt_key h hB hk⟩
  · exact ⟨by decide, fun w0 g gq bw k l W h hB hk => wpt_on h hB hk⟩
  · exact ⟨by decide, fun w0 g gq bw k l W h hB hk => wpt_of h hB hk⟩
theorem kRq_len : (Rq.encRq kRq).length = 16 := by
  unfold Rq.encRq
  rw [kRq_parts]
  rfl
theorem kRq_head : (Rq.encRq kRq).take 8 = [3, 2, 107, 55, 0, 0, 0, 3] := by
  unfold Rq.encRq
  rw [kRq_parts]
  rfl
theorem kAns_bytes : ((((([] ++ Wire.be 6 1) ++ Wire.be 0 2) ++ Wire.be 0 2) ++ Wire.be 0 2) : List UInt8) = [6, 0, 0, 0, 0, 0, 0] := rfl
theorem run_headB (q : Option Addr) (n cap k : Nat) (h : k ≤ cap) (W : World) : (Instr.slice 47 (.slice q n cap) none (some (.int .i64 (k : Int))) none).run Tryz.prog W = .ok (.slice q k cap) W := by
  have ht : Tryz.prog.underlying 47 = some (.slice (Tryz.prog.elem 47)) := by kernel_rfl
  have hz : ∀ W : World, (sizeOf (Tryz.prog.elem 47)).run Tryz.prog W = .ok 1 W := fun W => by
    rw [show Tryz.prog.elem 47 = 5 from by kernel_rfl]; simp [go_sem]
  rw [run_slice_h W _ _ _ _ ht _ _ (by omega) (by omega), hz]
  cases q <;> simp [sliced, Result.andThen, Addr.add]
theorem str_eq (l : List UInt8) (a : Array UInt8) (h : l = a.toList) : (⟨l.toArray⟩ : ByteArray) = ⟨a⟩ := by rw [h]

set_option maxRecDepth 8000 in
set_option maxHeartbeats 2000000 in
theorem known16_any (w : World) : Calls Tryz.prog 12 #[] w fun e w' => e = .returned (.bool true) ∧ Below w.heap.size w w' := by
  have HRB := Lib.hid (fun W => rqBytes_yes kRq kRq_wf none none 0 0 0 0 W (LS.nil W) (LS.nil W) (by decide) (by decide) kRq_st kRq_sw kRq_may (by decide))
  have HRB : Hid (∀ W : World, Calls Tryz.prog 32 #[.agg #[.string ⟨#[107, 55]⟩, .int .i64 3, .int .i64 3, .int .u64 1230000000014, .int .i64 0, .int .i64 0, .string ⟨#[]⟩, .slice none 0 0, .slice none 0 0, .int .i64 0, .int .i64 0, .int .i64 0]] W fun e w' => ∃ v, e = .returned (.tuple #[v, .int .i64 0]) ∧ w'.ownsRow W.heap.size 5 1 v (Rq.encRq kRq).length (bytesV (Rq.encRq kRq)) ∧ Below W.heap.size W w') := Lib.hid HRB.out
  have k0 : Num.mkN 123 1 = 1230000000014 := by decide
  go_enter Tryz.func12, Tryz.ntmps12
  go_wp2_with fail
  refine (rMake_any _ _ _).mono ?_
  rintro e w1 ⟨rfl, hb⟩
  rw [k0]
  have HB := Lib.hid hb
  clear hb
  go_wp2_with fail
  refine (HRB.out _).mono ?_
  rintro e w2 ⟨v1, rfl, ho1, hb⟩
  replace HB := Lib.hid (HB.out.trans (hb.mono HB.out.size))
  have HBS1 := Lib.hid (BS.of_own ho1)
  obtain ⟨q1, c1, hv1⟩ := rec_formT ho1
  subst hv1
  rw [kRq_len] at HBS1 ⊢
  clear hb ho1
  go_wp2_with fail
  refine (ansBytes0_any _).mono ?_
  rintro e w3 ⟨v2, rfl, ho2, hb⟩
  replace HB := Lib.hid (HB.out.trans (hb.mono HB.out.size))
  replace HBS1 := Lib.hid (HBS1.out.below hb)
  have HBS2 := Lib.hid (BS.of_own ho2)
  rw [kAns_bytes] at ho2 HBS2
  obtain ⟨q2, c2, hv2⟩ := rec_formT ho2
  subst hv2
  clear hb ho2
  have HCP : Hid (8 ≤ c1 ∧ c1 ≤ maxLen) := Lib.hid (by have h := HBS1.out.bounds'; omega)
  have h8 := HCP.out.1
  have hsl := fun W => run_headB q1 16 c1 8 h8 W
  have HB8 : Hid (BS w3 (.slice q1 8 c1) [3, 2, 107, 55, 0, 0, 0, 3]) := Lib.hid (by have h := HBS1.out.head (k := 8) (by rw [kRq_len]; decide); rwa [kRq_head] at h)
  have hs1 := HB8.out.to_string
  have hs2 : (convert 47 9 (.slice q2 7 c2)).run Tryz.prog w3 = .ok (.string ⟨#[6, 0, 0, 0, 0, 0, 0]⟩) w3 := HBS2.out.to_string
  clear HBS1 HBS2 HB8
  go_wp2_with fail
  go_ret
  exact ⟨ret_bool (by simp), HB.out⟩
end Go.Proofs.YtbmphlpmipkpcaaGreat
end

section
set_option linter.unusedVariables false
set_option linter.unusedSimpArgs false
namespace Go.Proofs.YtbmphlpmipkpcaaGreat
open Go.ChangeShapes Go.WideShapes Go.ChangeAt Go.RowKit Go.Deep

inductive Leaf where
  | int (k : IntKind)
  | str
  | bool
  | other (t : TypeId)

def offsB (P : Program) : List Field → List (List Leaf) → Nat → Bool
  | [], [], _ => true
  | f :: fs, l :: ls, o => f.offset == o && P.cellsOf f.type == l.length && offsB P fs ls (o + l.length)
  | _, _, _ => false

def leaves (P : Program) : Nat → TypeId → Option (List Leaf)
  | 0, _ => none
  | n + 1, t => match P.underlying t with
    | some (.int k) => some [.int k]
    | some .string => some [.str]
    | some .bool => some [.bool]
    | some (.struct fs) => match fs.toList.mapM (fun f => leaves P n f.type) with
      | some ls => if offsB P fs.toList ls 0 && P.cellsOf t == ls.flatten.length then some ls.flatten else none
      | none => none
    | some (.slice _) => some [.other t]
    | _ => none

section
variable {H : Type} {enc : TypeId × Value → H} {P : Program} {W : World} {held : Bool}

def Leaf.ok (enc : TypeId × Value → H) (P : Program) (W : World) (held : Bool) : Leaf → Value → Prop
  | .int k, v => ∃ z, v = .int k z ∧ (Lit.int k z).wf = true
  | .str, v => ∃ s : ByteArray, v = .string s ∧ s.size ≤ maxLen
  | .bool, v => ∃ b, v = .bool b
  | .other t, v => ∃ n x, DataW.trod enc P W 0 (fun _ => true) held n t [v] = some x

def AllOk (enc : TypeId × Value → H) (P : Program) (W : World) (held : Bool) : List Leaf → List Value → Prop
  | [], [] => True
  | l :: ls, v :: vs => l.ok enc P W held v ∧ AllOk enc P W held ls vs
  | _, _ => False

theorem AllOk.length : ∀ {ls : List Leaf} {vs : List Value}, AllOk enc P W held ls vs → vs.length = ls.length
  | [], [], _ => rfl
  | _ :: _, _ :: _, h => by simpa using AllOk.length h.2
  | [], _ :: _, h => h.elim
  | _ :: _, [], h => h.elim
theorem AllOk.append : ∀ {ls : List Leaf} {vs : List Value} {ms : List Leaf} {us : List Value}, AllOk enc P W held ls vs → AllOk enc P W held ms us → AllOk enc P W held (ls ++ ms) (vs ++ us)
  | [], [], _, _, _, k => k
  | _ :: _, _ :: _, _, _, h, k => ⟨h.1, AllOk.append h.2 k⟩
  | [], _ :: _, _, _, h, _ => h.elim
  | _ :: _, [], _, _, h, _ => h.elim

theorem fields_ok (cs : List Value) : ∀ (fs : List Field) (ls : List (List Leaf)) (o : Nat), offsB P fs ls o = true → (∀ (i : Nat) (f : Field) (l : List Leaf), fs[i]? = some f → ls[i]? = some l → AllOk enc P W held l ((cs.drop f.offset).take (P.cellsOf f.type))) →
    cs.length = o + ls.flatten.length → AllOk enc P W held ls.flatten (cs.drop o) := by
  intro fs
  induction fs with
  | nil =>
    intro ls o ho _ hl
    cases ls with
    | nil =>
      rw [List.drop_of_length_le (by simp at hl; omega)]
      trivial
    | cons l ls => simp [offsB] at ho
  | cons f fs ih =>
    intro ls o ho hf hl
    cases ls with
    | nil => simp [offsB] at ho
    | cons l ls =>
      simp only [offsB, Bool.and_eq_true, beq_iff_eq] at ho
      obtain ⟨⟨h1, h2⟩, h3⟩ := ho
      have h4 := hf 0 f l rfl rfl
      rw [h1, h2] at h4
      have h5 := ih ls (o + l.length) h3 (fun i g m hg hm => hf (i + 1) g m (by simpa using hg) (by simpa using hm)) (by simp at hl; simp; omega)
      have h6 := h4.append h5
      rw [← List.drop_drop, List.take_append_drop] at h6
      simpa using h6

theorem trod_leaves : ∀ (n : Nat) (t : TypeId) (ls : List Leaf), leaves P n t = some ls → ∀ (fuel : Nat) (cs : List Value) (x : DataW H × List MemPlace), DataW.trod enc P W 0 (fun _ => true) held fuel t cs = some x → AllOk enc P W held ls cs := by
  intro n
  induction n with
  | zero => intro t ls h; simp [leaves] at h
  | succ n ih =>
    intro t ls h fuel cs x hx
    unfold leaves at h
    split at h
    · rename_i k hu
      injection h with h; subst h
      obtain ⟨z, rfl, _, hw⟩ := DataW.trod_int hu hx
      exact ⟨⟨z, rfl, hw⟩, trivial⟩
    · rename_i hu
      injection h with h; subst h
      obtain ⟨s, rfl, _, hw⟩ := DataW.trod_string hu hx
      exact ⟨⟨s, rfl, hw⟩, trivial⟩
    · rename_i hu
      injection h with h; subst h
      obtain ⟨b, rfl, _⟩ := DataW.trod_bool hu hx
      exact ⟨⟨b, rfl⟩, trivial⟩
    · rename_i fs hu
      split at h
      · rename_i lls hm
        split at h
        · rename_i hc
          injection h with h; subst h
          simp only [Bool.and_eq_true, beq_iff_eq] at hc
          obtain ⟨xs, m, rfl, rfl, hl, hxl, hf⟩ := DataW.trod_struct hu hx
          have := fields_ok (enc := enc) (P := P) (W := W) (held := held) cs fs.toList lls 0 hc.1 (fun i f l hi hli => by
            have h1 := hf i f (by simpa using hi)
            have hlt : i < fs.size := by
              rcases Nat.lt_or_ge i fs.size with h | h
              · exact h
              · simp [h] at hi
            rw [List.getElem?_eq_getElem (by omega)] at h1
            have h2 := mapM_some_get hm i f hi
            rw [hli] at h2
            exact ih f.type l h2 _ _ _ h1) (by rw [hl, hc.2, Nat.zero_add])
          simpa using this
        · cases h
      · cases h
    · rename_i e hu
      injection h with h; subst h
      rcases DataW.trod_slice hu hx with ⟨rfl, _⟩ | ⟨a, len, cap, _, _, _, _, rfl, _⟩
      · exact ⟨⟨fuel, x, hx⟩, trivial⟩
      · exact ⟨⟨fuel, x, hx⟩, trivial⟩
    · cases h

theorem open_leaves {r : Reach} {b0 n : Nat} {t : TypeId} {fs : Array Field} {ls : List Leaf} {v : Value} {d : DataW H} {ps : List MemPlace} (hu : P.underlying t = some (.struct fs)) (hl : leaves P n t = some ls) (hv : Value.okWide P W r b0 t v)
    (h : DataW.Trod enc P W 0 (fun _ => true) held t v d ps) : ∃ cs : List Value, v = .agg cs.toArray ∧ AllOk enc P W held ls cs := by
  obtain ⟨cs, rfl, hsz⟩ := okWide_struct hu hv
  obtain ⟨fuel, hf⟩ := h
  exact ⟨cs.toList, by simp, trod_leaves n t ls hl fuel _ _ hf⟩

theorem wide_cellsS {w : World} {a : Addr} {cs : List Value} {n : Nat} (hn : cs.length = n) (h : ∀ j, j < n → w.cell? (a.add j) = cs[j]?) (h0 : 0 < n) :
    ∃ b o, a = ⟨b, o, none⟩ ∧ b < w.heap.size ∧ ∀ j, j < n → w.cell? ⟨b, o + j, none⟩ = cs[j]? := by
  have e0 := h 0 h0
  rw [List.getElem?_eq_getElem (by omega)] at e0
  have h1 := cell_blockW e0
  have h2 : (a.add 0).spot = none := by
    unfold World.cell? at e0
    split at e0
    · split at e0
      · cases e0
      · rename_i hn
        cases hs : (a.add 0).spot with
        | none => rfl
        | some z => simp [hs] at hn
    · cases e0
  obtain ⟨b, o, s⟩ := a
  have h2' : s = none := by simpa [Addr.add] using h2
  subst h2'
  refine ⟨b, o, rfl, by simpa [Addr.add] using h1, fun j hj => ?_⟩
  have := h j hj
  rw [Go.WideShapes.add_plain] at this
  exact this
/-- a slice of records, leaf by leaf -/
theorem open_rows {n fuel : Nat} {t e : TypeId} {ls : List Leaf} {v : Value} {x : DataW H × List MemPlace} (ht : P.underlying t = some (.slice e)) (hl : leaves P n e = some ls) (hc : P.cellsOf e = ls.length) (hpos : 0 < ls.length)
    (h : DataW.trod enc P W 0 (fun _ => true) held fuel t [v] = some x) : ∃ rows : List (List Value), LS (fun r => r) ls.length W v rows ∧ ∀ r ∈ rows, AllOk enc P W held ls r := by
  rcases open_slice ht h with ⟨h0, _⟩ | ⟨a, len, cap, m, k, D, Pl, h0, hb, hle, hm, hmm, hx, hi⟩
  · injection h0 with h0 _
    subst h0
    exact ⟨[], LS.nil W, fun r hr => absurd hr (by simp)⟩
  · injection h0 with h0 _
    subst h0
    simp only [ite_true] at hmm
    subst hmm
    have key : ∀ i, i < len → ∃ r : List Value, AllOk enc P W held ls r ∧ ∀ j, j < ls.length → W.cell? ((a.add (i * ls.length)).add j) = r[j]? := by
      intro i hil
      obtain ⟨cs', h1, h2⟩ := hi i (by omega)
      rw [hc] at h1
      obtain ⟨_, _, hcell⟩ := World.cells?_some h1
      exact ⟨cs', trod_leaves n e ls hl _ _ _ h2, hcell⟩
    obtain ⟨f, hf⟩ := choose_lt key
    refine ⟨(List.range len).map f, ⟨some a, m, by simp, by simpa using hle, hm, fun hne => ?_⟩, fun r hr => ?_⟩
    · have hp : 0 < len := by
        rcases Nat.eq_zero_or_pos len with h | h
        · subst h; simp at hne
        · exact h
      obtain ⟨b, o, he, hlt, _⟩ := wide_cellsS (n := ls.length) (cs := f 0) (hf 0 hp).1.length (hf 0 hp).2 hpos
      rw [Nat.zero_mul] at he
      have ha : a = ⟨b, o, none⟩ := by simpa [Addr.add] using he
      subst ha
      refine ⟨b, o, rfl, hlt, fun i x hx j u hu => ?_⟩
      rw [List.getElem?_map] at hx
      rcases Nat.lt_or_ge i len with hil | hil
      · rw [List.getElem?_range hil] at hx
        injection hx with hx
        subst hx
        have hj : j < ls.length := by have := (List.getElem?_eq_some_iff.1 hu).1; rwa [(hf i hil).1.length] at this
        have hg := (hf i hil).2 j hj
        rw [Go.WideShapes.add_plain, Go.WideShapes.add_plain] at hg
        rw [hg, hu]
      · rw [List.getElem?_eq_none (by simpa using hil)] at hx
        cases hx
    · obtain ⟨i, hi, rfl⟩ := List.mem_map.1 hr
      exact (hf i (List.mem_range.1 hi)).1

/-- numbers of some kinds -/
def IntsOk : List IntKind → List Int → Prop
  | [], [] => True
  | k :: ks, z :: zs => (Lit.int k z).wf = true ∧ IntsOk ks zs
  | _, _ => False
def encI : List IntKind → List Int → List Value
  | k :: ks, z :: zs => .int k z :: encI ks zs
  | _, _ => []
theorem ints_of_all : ∀ {ks : List IntKind} {cs : List Value}, AllOk enc P W held (ks.map .int) cs → ∃ zs, IntsOk ks zs ∧ cs = encI ks zs
  | [], [], _ => ⟨[], trivial, rfl⟩
  | k :: ks, c :: cs, h => by
    obtain ⟨⟨z, rfl, hw⟩, h2⟩ := h
    obtain ⟨zs, h3, rfl⟩ := ints_of_all (ks := ks) h2
    exact ⟨z :: zs, ⟨hw, h3⟩, rfl⟩
  | [], _ :: _, h => h.elim
  | _ :: _, [], h => h.elim
theorem LS.of_rows {α : Type} {en : α → List Value} {n : Nat} {v : Value} {l : List α} (h : LS (fun r => r) n W v (l.map en)) : LS en n W v l := by
  obtain ⟨p, cap, rfl, h1, h2, h3⟩ := h
  refine ⟨p, cap, by simp, by simpa using h1, h2, fun hl => ?_⟩
  obtain ⟨b, o, e, hb, hc⟩ := h3 (by simpa using hl)
  exact ⟨b, o, e, hb, fun i x hx => hc i (en x) (by rw [List.getElem?_map, hx]; rfl)⟩
/-- a slice of records of numbers -/
theorem open_recs {α : Type} {en : α → List Value} {n fuel : Nat} {t e : TypeId} {ks : List IntKind} {v : Value} {x : DataW H × List MemPlace} (Q : α → Prop) (of : ∀ zs, IntsOk ks zs → ∃ a, en a = encI ks zs ∧ Q a) (ht : P.underlying t = some (.slice e))
    (hl : leaves P n e = some (ks.map .int)) (hc : P.cellsOf e = ks.length) (hpos : 0 < ks.length) (h : DataW.trod enc P W 0 (fun _ => true) held fuel t [v] = some x) : ∃ l : List α, LS en ks.length W v l ∧ ∀ a ∈ l, Q a := by
  obtain ⟨rows, h1, h2⟩ := open_rows ht hl (by simpa using hc) (by simpa using hpos) h
  have key : ∀ rows : List (List Value), (∀ r ∈ rows, AllOk enc P W held (ks.map .int) r) → ∃ l : List α, rows = l.map en ∧ ∀ a ∈ l, Q a := by
    intro rows
    induction rows with
    | nil => intro _; exact ⟨[], rfl, fun a ha => absurd ha (by simp)⟩
    | cons r rows ih =>
      intro hr
      obtain ⟨l, hl1, hl2⟩ := ih (fun q hq => hr q (by simp [hq]))
      obtain ⟨zs, hz, hz2⟩ := ints_of_all (hr r (by simp))
      obtain ⟨a, ha, hq⟩ := of zs hz
      refine ⟨a :: l, by rw [hl1, hz2, ← ha]; rfl, fun b hb => ?_⟩
      rcases List.mem_cons.1 hb with rfl | hb
      · exact hq
      · exact hl2 b hb
  obtain ⟨l, hl1, hl2⟩ := key rows h2
  subst hl1
  rw [List.length_map] at h1
  exact ⟨l, h1.of_rows, hl2⟩
end
end Go.Proofs.YtbmphlpmipkpcaaGreat
end
