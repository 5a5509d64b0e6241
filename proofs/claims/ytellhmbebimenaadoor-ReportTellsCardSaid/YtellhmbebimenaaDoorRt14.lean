/- Plain law: totals of few postings that may be are the sums of their columns; these do not hang on the order, and those of two parts add up. Plain law of reports: rows in order, no two alike, are what a sorted list of postings that may be and are not alike is. Contracts of the report: days, within, rising. -/
import Derived.Test.YtellhmbebimenaaDoorRt9
import Derived.Test.YtellhmbebimenaaDoorRt12
import Derived.Test.YtellhmbebimenaaDoorRt13
import Derived.Test.YtellhmbebimenaaDoorRt3
import Derived.Test.YtellhmbebimenaaDoorRt1
import Derived.Deep.QuietTactic
import Derived.BigQuiet

section
set_option linter.unusedVariables false
namespace Go.Proofs.YtellhmbebimenaaDoor
theorem Srt.Mix.perm {α : Type} {key : α → Int} {x y : List α} (h : Srt.Mix key x y) : x.Perm y := by
  classical
  refine List.perm_iff_count.2 fun a => ?_
  have h1 := h.2 (key a)
  rw [← List.count_filter (p := fun e => key e == key a) (l := x) (by simp), h1, List.count_filter (by simp)]
namespace Post
/-- a column's sum -/
def colS (f : Pst → Int) : List Pst → Int
  | [] => 0
  | p :: l => f p + colS f l
theorem colS_append (f : Pst → Int) (x y : List Pst) : colS f (x ++ y) = colS f x + colS f y := by
  induction x with
  | nil => simp [colS]
  | cons p x ih => rw [List.cons_append, colS, colS, ih]; omega
theorem colS_perm (f : Pst → Int) {x y : List Pst} (h : x.Perm y) : colS f x = colS f y := by
  induction h with
  | nil => rfl
  | cons p _ ih => rw [colS, colS, ih]
  | swap p q l => rw [colS, colS, colS, colS]; omega
  | trans _ _ h1 h2 => rw [h1, h2]
theorem may_each {p : Pst} (h : p.may = true) : (-1125899906842624 ≤ p.a0 ∧ p.a0 ≤ 1125899906842624) ∧ (-1125899906842624 ≤ p.a1 ∧ p.a1 ≤ 1125899906842624) ∧ (-1125899906842624 ≤ p.a2 ∧ p.a2 ≤ 1125899906842624) ∧
    (-1125899906842624 ≤ p.a3 ∧ p.a3 ≤ 1125899906842624) ∧ (-1125899906842624 ≤ p.a4 ∧ p.a4 ≤ 1125899906842624) ∧ (-1125899906842624 ≤ p.a5 ∧ p.a5 ≤ 1125899906842624) := by
  have hb := may_bound h
  exact ⟨any_in hb (by simp [Pst.am]), any_in hb (by simp [Pst.am]), any_in hb (by simp [Pst.am]), any_in hb (by simp [Pst.am]), any_in hb (by simp [Pst.am]), any_in hb (by simp [Pst.am])⟩
theorem colS_bound (f : Pst → Int) {l : List Pst} (h : ∀ p ∈ l, -1125899906842624 ≤ f p ∧ f p ≤ 1125899906842624) : -(l.length * 1125899906842624 : Int) ≤ colS f l ∧ colS f l ≤ (l.length * 1125899906842624 : Int) := by
  induction l with
  | nil => simp [colS]
  | cons p l ih =>
    have h1 := h p (by simp)
    have h2 := ih fun q hq => h q (by simp [hq])
    rw [colS, List.length_cons]
    omega
theorem run_cols : ∀ (l : List Pst) (x0 x1 x2 x3 x4 x5 : Int), (∀ p ∈ l, p.may = true) →
    (∀ z, z = x0 ∨ z = x1 ∨ z = x2 ∨ z = x3 ∨ z = x4 ∨ z = x5 → -(1152921504606846976 - l.length * 1125899906842624 : Int) ≤ z ∧ z ≤ (1152921504606846976 - l.length * 1125899906842624 : Int)) →
    run [x0, x1, x2, x3, x4, x5] (l.map Pst.am) = some [x0 + colS (·.a0) l, x1 + colS (·.a1) l, x2 + colS (·.a2) l, x3 + colS (·.a3) l, x4 + colS (·.a4) l, x5 + colS (·.a5) l] := by
  intro l
  induction l with
  | nil => intro x0 x1 x2 x3 x4 x5 _ _; simp [run, colS]
  | cons p l ih =>
    intro x0 x1 x2 x3 x4 x5 hm hb
    obtain ⟨m0, m1, m2, m3, m4, m5⟩ := may_each (hm p (by simp))
    have b0 := hb x0 (by simp); have b1 := hb x1 (by simp); have b2 := hb x2 (by simp); have b3 := hb x3 (by simp); have b4 := hb x4 (by simp); have b5 := hb x5 (by simp)
    simp only [List.length_cons] at b0 b1 b2 b3 b4 b5
    rw [List.map_cons, run]
    have hadd : addAm [x0, x1, x2, x3, x4, x5] p.am = [x0 + p.a0, x1 + p.a1, x2 + p.a2, x3 + p.a3, x4 + p.a4, x5 + p.a5] := rfl
    rw [hadd, if_neg]
    · rw [ih _ _ _ _ _ _ (fun q hq => hm q (by simp [hq])) (by
        intro z hz
        rcases hz with rfl | rfl | rfl | rfl | rfl | rfl <;> omega)]
      simp only [colS, Int.add_assoc]
    · simp only [List.any_cons, List.any_nil, outB, Bool.or_eq_true, decide_eq_true_eq, Bool.false_eq_true, or_false]
      omega
theorem sums_cols {l : List Pst} (hm : ∀ p ∈ l, p.may = true) (hl : l.length ≤ 60) :
    sums l = ⟨0, l.length, [colS (·.a0) l, colS (·.a1) l, colS (·.a2) l, colS (·.a3) l, colS (·.a4) l, colS (·.a5) l]⟩ := by
  have h := run_cols l 0 0 0 0 0 0 hm (by intro z hz; have : z = 0 := by simpa using hz
                                          subst this; omega)
  simp only [Int.zero_add] at h
  refine sums_are ?_ h
  rw [List.any_eq_false]
  intro p hp
  simp [hm p hp]
end Post
end Go.Proofs.YtellhmbebimenaaDoor
end

section
set_option linter.unusedVariables false
namespace Go.Proofs.YtellhmbebimenaaDoor
namespace Rep
/-- may each be, and is each one below the next? -/
def RisP (l : List Pst) : Prop := (∀ p ∈ l, p.may = true) ∧ ∀ (i : Nat) (x y : Pst), l[i]? = some x → l[i + 1]? = some y → lessP x y = true
/-- may each be, and are no two alike? -/
def alike (x y : Pst) : Bool := decide (x.t = y.t) && decide (x.s = y.s)
def FineP (l : List Pst) : Prop := (∀ p ∈ l, p.may = true) ∧ ∀ (i j : Nat) (x y : Pst), j < i → l[i]? = some x → l[j]? = some y → alike x y = false
def within (a b : Int) (p : Pst) : Bool := decide (a ≤ p.d) && decide (p.d ≤ b)
def days (a b : Int) : Bool := decide (0 ≤ a) && decide (a ≤ b) && decide (b ≤ 1000000)

theorem less_keyP {x y : Pst} (hx : x.wf) (hy : y.wf) : lessP x y = true ↔ keyP x < keyP y := by
  rw [← ord_key hx hy, ← ord_less x y]
  simp
theorem alike_key {x y : Pst} (hx : x.wf) (hy : y.wf) : alike x y = true ↔ keyP x = keyP y := by
  have h1 := less_keyP hx hy
  have h2 := less_keyP hy hx
  unfold alike
  unfold lessP at h1 h2
  simp only [Bool.or_eq_true, Bool.and_eq_true, decide_eq_true_eq] at h1 h2 ⊢
  omega
theorem alike_comm (x y : Pst) : alike x y = alike y x := by
  unfold alike
  rw [Bool.eq_iff_iff]
  simp only [Bool.and_eq_true, decide_eq_true_eq]
  constructor <;> (rintro ⟨h1, h2⟩; exact ⟨h1.symm, h2.symm⟩)
theorem fine_pairwise (l : List Pst) : FineP l ↔ (∀ p ∈ l, p.may = true) ∧ l.Pairwise (fun x y => alike x y = false) := by
  have hsym := alike_comm
  unfold FineP
  refine and_congr_right fun _ => ?_
  rw [List.pairwise_iff_getElem]
  constructor
  · intro h i j hi hj hij
    rw [hsym]
    exact h j i _ _ hij (List.getElem?_eq_getElem hj) (List.getElem?_eq_getElem hi)
  · intro h i j x y hij hx hy
    obtain ⟨hi, e1⟩ := List.getElem?_eq_some_iff.1 hx
    obtain ⟨hj, e2⟩ := List.getElem?_eq_some_iff.1 hy
    have := h j i hj hi hij
    rw [e1, e2] at this
    rw [hsym]
    exact this
theorem fine_perm {x y : List Pst} (h : x.Perm y) : FineP x ↔ FineP y := by
  rw [fine_pairwise, fine_pairwise]
  have hsym : ∀ {a b : Pst}, alike a b = false → alike b a = false := fun {a b} h => by rw [alike_comm]; exact h
  rw [h.pairwise_iff hsym]
  exact and_congr_left fun _ => ⟨fun h1 p hp => h1 p (h.mem_iff.2 hp), fun h1 p hp => h1 p (h.mem_iff.1 hp)⟩
/-- of a sorted list -/
theorem ris_fine {s : List Pst} (hw : WF s) (hu : Srt.Up keyP s) : RisP s ↔ FineP s := by
  refine and_congr_right fun _ => ⟨fun h i j x y hij hx hy => ?_, fun h i x y hx hy => ?_⟩
  · have hxw := hw x (List.mem_of_getElem? hx)
    have hyw := hw y (List.mem_of_getElem? hy)
    obtain ⟨z, hz⟩ : ∃ z, s[j + 1]? = some z := ⟨_, List.getElem?_eq_getElem (by have := (List.getElem?_eq_some_iff.1 hx).1; omega)⟩
    have h1 := (less_keyP hyw (hw z (List.mem_of_getElem? hz))).1 (h j y z hy hz)
    have h2 := hu.at (i := j + 1) (j := i) (by omega) hz hx
    have h3 := alike_key hxw hyw
    cases ha : alike x y
    · rfl
    · have := h3.1 ha; omega
  · have hxw := hw x (List.mem_of_getElem? hx)
    have hyw := hw y (List.mem_of_getElem? hy)
    have h1 := h (i + 1) i y x (by omega) hy hx
    have h2 := hu.at (i := i) (j := i + 1) (by omega) hx hy
    have h3 := alike_key hyw hxw
    refine (less_keyP hxw hyw).2 ?_
    have : keyP y ≠ keyP x := fun e => by rw [h3.2 e] at h1; cases h1
    omega
theorem ris_of {l s : List Pst} (hw : WF l) (hm : Srt.Mix keyP l s) (hu : Srt.Up keyP s) : RisP s ↔ FineP l := by
  rw [ris_fine (fun e he => hw e (hm.symm.mem he)) hu]
  exact (fine_perm hm.perm).symm
/-- those of some days, sorted: the same whether sorted ahead or behind -/
theorem Up.filter {s : List Pst} (h : Srt.Up keyP s) (q : Pst → Bool) : Srt.Up keyP (s.filter q) := List.Pairwise.filter _ h
theorem Mix.filter {l s : List Pst} (h : Srt.Mix keyP l s) (q : Pst → Bool) : Srt.Mix keyP (l.filter q) (s.filter q) := by
  refine ⟨(h.perm.filter q).length_eq, fun k => ?_⟩
  rw [List.filter_filter, List.filter_filter]
  have h1 : ∀ z : List Pst, z.filter (fun e => (keyP e == k) && q e) = (z.filter (fun e => keyP e == k)).filter q := fun z => by
    rw [List.filter_filter]
    refine List.filter_congr fun e _ => Bool.and_comm _ _
  rw [h1, h1, h.2 k]
/-- are two postings the same? -/
def sameP (x y : Pst) : Bool := x.d == y.d && (x.t == y.t && (x.s == y.s && (x.k == y.k && (x.a0 == y.a0 && (x.a1 == y.a1 && (x.a2 == y.a2 && (x.a3 == y.a3 && (x.a4 == y.a4 && (x.a5 == y.a5)))))))))
theorem sameP_iff (x y : Pst) : sameP x y = true ↔ x = y := by
  obtain ⟨d, t, s, k, a0, a1, a2, a3, a4, a5⟩ := x
  obtain ⟨d', t', s', k', b0, b1, b2, b3, b4, b5⟩ := y
  simp [sameP]
theorem fine_nodup {l : List Pst} (h : FineP l) : l.Nodup := by
  refine ((fine_pairwise l).1 h).2.imp ?_
  intro a b hab e
  subst e
  unfold alike at hab
  simp at hab
theorem count_one {α : Type} [BEq α] [LawfulBEq α] : ∀ (l : List α) (x : α), l.Nodup → x ∈ l → l.count x = 1 := by
  intro l x
  induction l with
  | nil => intro _ h; cases h
  | cons a l ih =>
    intro h hx
    obtain ⟨h1, h2⟩ := List.nodup_cons.1 h
    by_cases e : x = a
    · subst e
      rw [List.count_cons_self, List.count_eq_zero.2 h1]
    · rw [List.count_cons_of_ne (fun h => e h.symm)]
      exact ih h2 ((List.mem_cons.1 hx).resolve_left e)
theorem count_rows {l s : List Pst} {x : Pst} (hx : x ∈ l) (hm : Srt.Mix keyP l s) (hf : FineP l) (a b : Int) : ((s.filter (within a b)).filter (fun y => sameP y x)).length = if within a b x then 1 else 0 := by
  classical
  have h1 : ∀ z : List Pst, (z.filter (fun y => sameP y x)).length = z.count x := fun z => by
    rw [List.count_eq_countP, List.countP_eq_length_filter]
    congr 1
    refine List.filter_congr fun y _ => ?_
    rw [Bool.eq_iff_iff, sameP_iff]
    simp
  rw [h1]
  have h2 : s.count x = 1 := by
    rw [← hm.perm.count_eq]
    exact count_one _ _ (fine_nodup hf) hx
  by_cases hw : within a b x = true
  · rw [List.count_filter hw, h2, if_pos hw]
  · rw [if_neg hw, List.count_eq_zero]
    intro hmem
    exact hw (List.mem_filter.1 hmem).2
end Rep
end Go.Proofs.YtellhmbebimenaaDoor
end

section
set_option linter.unusedVariables false
set_option linter.unusedSimpArgs false
namespace Go.Proofs.YtellhmbebimenaaDoor
open Go.RowKit

theorem pDays_any (a b : Int) (w : World) : Calls Tryd.prog 126 #[.int .i64 a, .int .i64 b] w fun e w' => e = .returned (.bool (Rep.days a b)) ∧ w = w' := by
  have H : Hid (Rep.days a b = (decide (0 ≤ a) && decide (a ≤ b) && decide (b ≤ 1000000))) := Lib.hid rfl
  go_enter Tryd.func126, Tryd.ntmps126
  by_cases h0 : 0 ≤ a
  · by_cases h1 : a ≤ b
    · by_cases h2 : b ≤ 1000000 <;> (go_wp2; go_ret; exact ⟨ret_bool (by rw [H.out]; simp [h0, h1, h2] <;> (intros; omega)), rfl⟩)
    · go_wp2; go_ret; exact ⟨ret_bool (by rw [H.out]; simp [h0, h1] <;> (intros; omega)), rfl⟩
  · go_wp2; go_ret; exact ⟨ret_bool (by rw [H.out]; simp [h0] <;> (intros; omega)), rfl⟩
theorem rDays_any (a b : Int) (w : World) : Calls Tryd.prog 134 #[.int .i64 a, .int .i64 b] w fun e w' => e = .returned (.bool (Rep.days a b)) ∧ w = w' := by
  have H : Hid (Rep.days a b = (decide (0 ≤ a) && decide (a ≤ b) && decide (b ≤ 1000000))) := Lib.hid rfl
  go_enter Tryd.func134, Tryd.ntmps134
  by_cases h0 : 0 ≤ a
  · by_cases h1 : a ≤ b
    · by_cases h2 : b ≤ 1000000 <;> (go_wp2; go_ret; exact ⟨ret_bool (by rw [H.out]; simp [h0, h1, h2] <;> (intros; omega)), rfl⟩)
    · go_wp2; go_ret; exact ⟨ret_bool (by rw [H.out]; simp [h0, h1] <;> (intros; omega)), rfl⟩
  · go_wp2; go_ret; exact ⟨ret_bool (by rw [H.out]; simp [h0] <;> (intros; omega)), rfl⟩
theorem within_any (x : Pst) (a b : Int) (w : World) : Calls Tryd.prog 130 #[.agg #[.int .i64 x.d, .int .u64 x.t, .int .i64 x.s, .int .i64 x.k, .int .i64 x.a0, .int .i64 x.a1, .int .i64 x.a2, .int .i64 x.a3, .int .i64 x.a4, .int .i64 x.a5], .int .i64 a, .int .i64 b] w fun e w' => e = .returned (.bool (Rep.within a b x)) ∧ Below w.heap.size w w' := by
  have H : Hid (Rep.within a b x = (decide (a ≤ x.d) && decide (x.d ≤ b))) := Lib.hid rfl
  go_enter Tryd.func130, Tryd.ntmps130
  by_cases h0 : a ≤ x.d
  · by_cases h1 : x.d ≤ b <;> (go_wp2; go_ret; exact ⟨ret_bool (by rw [H.out]; simp [h0, h1] <;> (intros; omega)), (Below.refl _ _).alloc (Nat.le_refl _) _⟩)
  · go_wp2; go_ret; exact ⟨ret_bool (by rw [H.out]; simp [h0] <;> (intros; omega)), (Below.refl _ _).alloc (Nat.le_refl _) _⟩

theorem mk1_any (x : Pst) (a b : Int) (ga gb : Nat) (w : World) (ha : w.cell? ⟨ga, 0, none⟩ = some (.int .i64 a)) (hb : w.cell? ⟨gb, 0, none⟩ = some (.int .i64 b)) :
    Calls Tryd.prog 129 #[.agg #[.int .i64 x.d, .int .u64 x.t, .int .i64 x.s, .int .i64 x.k, .int .i64 x.a0, .int .i64 x.a1, .int .i64 x.a2, .int .i64 x.a3, .int .i64 x.a4, .int .i64 x.a5], .pointer (some ⟨ga, 0, none⟩), .pointer (some ⟨gb, 0, none⟩)] w fun e w' => e = .returned (.bool (Rep.within a b x)) ∧ Below w.heap.size w w' := by
  have hga := cell_blockW ha
  have hgb := cell_blockW hb
  simp only at hga hgb
  have H := Lib.hid (fun W => within_any x a b W)
  go_enter Tryd.func129, Tryd.ntmps129
  go_wp2_with fail
  refine (H.out _).mono ?_
  rintro e w1 ⟨rfl, hb1⟩
  go_wp2
  go_ret
  exact ⟨rfl, ((Below.refl w.heap.size w).alloc (Nat.le_refl _) _).trans (hb1.mono (by simp))⟩

theorem ps_at {w : World} {p : Option Addr} {n cap : Nat} {l : List Pst} (h : PS w (.slice p n cap) l) {k : Nat} {x : Pst} (hx : l[k]? = some x) : ∃ b o, p = some ⟨b, o, none⟩ ∧ b < w.heap.size ∧ PAt w b (o + k * 10) x := by
  obtain ⟨p', cap', e, h2, h3, h4, h5⟩ := h
  injection e with e1 e2 e3
  subst e1
  obtain ⟨b, o, e, hb, hc⟩ := h5 (by intro h; subst h; cases hx)
  exact ⟨b, o, e, hb, hc k x hx⟩
theorem ps_wf {w : World} {v : Value} {l : List Pst} (h : PS w v l) : WF l := by
  obtain ⟨p', cap', e, h2, h3, h4, h5⟩ := h
  exact h4
theorem ps_len {w : World} {p : Option Addr} {n cap : Nat} {l : List Pst} (h : PS w (.slice p n cap) l) : n = l.length ∧ n ≤ cap ∧ cap ≤ 9223372036854775807 := by
  obtain ⟨p', cap', e, h2, h3, h4, h5⟩ := h
  injection e with e1 e2 e3
  subst e3
  simp only [maxLen] at h3
  exact ⟨e2, by omega, h3⟩

set_option maxRecDepth 4000 in
set_option maxHeartbeats 2000000 in
theorem rising_any (l : List Pst) (bv : Bool) (hbv : bv = true ↔ Rep.RisP l) (p : Option Addr) (n cap : Nat) (w : World) (hs : PS w (.slice p n cap) l) :
    Calls Tryd.prog 127 #[.slice p n cap] w fun e w' => e = .returned (.bool bv) ∧ Below w.heap.size w w' := by
  have HPS := Lib.hid hs; have HBV := Lib.hid hbv; have HWF := Lib.hid (ps_wf hs); have HN := Lib.hid (ps_len hs).1
  have hn1 := (ps_len hs).2.1
  have hn2 := (ps_len hs).2.2
  clear hs hbv
  go_enter Tryd.func127, Tryd.ntmps127
  go_wp2
  go_loopw [7] (fun i wr => ∃ k : Nat, k ≤ n ∧ i = .int .i64 k ∧ Below w.heap.size w wr ∧ (∀ z ∈ l.take k, z.may = true) ∧ ∀ (i : Nat) (x y : Pst), i + 1 < k → l[i]? = some x → l[i + 1]? = some y → lessP x y = true) (fun i _ => n - (intOf i).toNat)
  case atStart => exact ⟨0, Nat.zero_le _, rfl, Below.refl _ _, fun z hz => absurd hz (by simp), fun i x y hi => absurd hi (by omega)⟩
  case round =>
    obtain ⟨k, hk, rfl, hbw, hmay, hless⟩ := hrel
    have HMAY := Lib.hid hmay; have HLESS := Lib.hid hless; have HBW := Lib.hid hbw
    clear hmay hless
    by_cases hlt : k < n
    · obtain ⟨x, hx⟩ : ∃ x, l[k]? = some x := ⟨_, List.getElem?_eq_getElem (by have := HN.out; omega)⟩
      obtain ⟨b, o, rfl, hbl, hat⟩ := ps_at (HPS.out.below hbw) hx
      have HX := Lib.hid hx
      have HU := Lib.hid (u64_bd (HWF.out x (List.mem_of_getElem? hx)).2.1)
      obtain ⟨q, hq⟩ : ∃ q, x.may = q := ⟨_, rfl⟩
      have HQ := Lib.hid hq
      have HM : Hid (∀ W, Calls Tryd.prog 25 #[.agg #[.int .i64 x.d, .int .u64 x.t, .int .i64 x.s, .int .i64 x.k, .int .i64 x.a0, .int .i64 x.a1, .int .i64 x.a2, .int .i64 x.a3, .int .i64 x.a4, .int .i64 x.a5]] W fun e w' => e = .returned (.bool q) ∧ Below W.heap.size W w') := Lib.hid (fun W => by
        have := may_any x.d x.t x.s x.k x.a0 x.a1 x.a2 x.a3 x.a4 x.a5 HU.out.1 HU.out.2 W
        rw [show Post.may x.d x.t x.s x.k [x.a0, x.a1, x.a2, x.a3, x.a4, x.a5] = q from hq] at this
        exact this)
      unfold PAt at hat
      obtain ⟨c0, c1, c2, c3, c4, c5, c6, c7, c8, c9⟩ := hat
      clear hx hq
      go_wp2
      have hrow := new_row wr (.cells #[.int .i64 x.d, .int .u64 x.t, .int .i64 x.s, .int .i64 x.k, .int .i64 x.a0, .int .i64 x.a1, .int .i64 x.a2, .int .i64 x.a3, .int .i64 x.a4, .int .i64 x.a5] 49 (0, 0)) _ rfl
      have HB0 := Lib.hid (hbw.alloc hbw.size (.cells #[.int .i64 x.d, .int .u64 x.t, .int .i64 x.s, .int .i64 x.k, .int .i64 x.a0, .int .i64 x.a1, .int .i64 x.a2, .int .i64 x.a3, .int .i64 x.a4, .int .i64 x.a5] 49 (0, 0)))
      have HBR := Lib.hid ((Below.refl wr.heap.size wr).alloc (Nat.le_refl _) (.cells #[.int .i64 x.d, .int .u64 x.t, .int .i64 x.s, .int .i64 x.k, .int .i64 x.a0, .int .i64 x.a1, .int .i64 x.a2, .int .i64 x.a3, .int .i64 x.a4, .int .i64 x.a5] 49 (0, 0)))
      clear c0 c1 c2 c3 c4 c5 c6 c7 c8 c9 hbw
      generalize wr.alloc (.cells #[.int .i64 x.d, .int .u64 x.t, .int .i64 x.s, .int .i64 x.k, .int .i64 x.a0, .int .i64 x.a1, .int .i64 x.a2, .int .i64 x.a3, .int .i64 x.a4, .int .i64 x.a5] 49 (0, 0)) = W0 at *
      have hgl := block_lt hrow
      have HPG := Lib.hid (fun (k : Nat) (y : Pst) (h : l[k]? = some y) => ps_at (HPS.out.below HB0.out) h)
      have hcp := fun j => cell_of_row W0 _ j _ _ _ hrow
      clear hrow HBR
      generalize wr.heap.size = gp at *
      have hL := @Later.cell
      cases q
      · have HF : Hid (bv = false) := Lib.hid (by
          cases hbv : bv
          · rfl
          · have := (HBV.out.1 hbv).1 x (List.mem_of_getElem? HX.out)
            rw [HQ.out] at this
            cases this)
        refine wp_region_later (by kernel_rfl) (by kernel_rfl) ?_
        repeat (go_big_quiet_step (first | (go_at_call 25; with_reducible exact later_call (HM.out _))))
        refine wpQuiet_nil ?_
        rintro w2 ⟨u, rfl⟩
        go_wp2
        go_ret
        exact ⟨ret_bool HF.out.symm, HB0.out.trans (u.prop.mono HB0.out.size)⟩
      · by_cases hk0 : k = 0
        · subst hk0
          have hG : decide ((0 : Int) < ((0 : Nat) : Int)) = false := rfl
          refine wp_region_later (by kernel_rfl) (by kernel_rfl) ?_
          repeat (go_big_quiet_step (first | (go_at_call 25; with_reducible exact later_call (HM.out _))))
          refine wpQuiet_nil ?_
          rintro w2 ⟨u, rfl⟩
          go_wp2
          go_roundw
          case rel =>
            refine ⟨1, by omega, by go_num, HB0.out.trans (u.prop.mono HB0.out.size), fun z hz => ?_, fun i x y hi => absurd hi (by omega)⟩
            rw [List.take_add_one, HX.out] at hz
            have : z = x := by simpa using hz
            rw [this]; exact HQ.out
          case measure => simp [intOf]; omega
        · obtain ⟨j, hj⟩ : ∃ j, j + 1 = k := ⟨k - 1, by omega⟩
          obtain ⟨y, hy⟩ : ∃ y, l[j]? = some y := ⟨_, List.getElem?_eq_getElem (by have := HN.out; omega)⟩
          obtain ⟨b2, o2, e2, hb2, hat⟩ := HPG.out j y hy
          injection e2 with e2
          injection e2 with e2 e3
          subst e2; subst e3
          have HY := Lib.hid hy
          obtain ⟨q2, hq2⟩ : ∃ q2, lessP y x = q2 := ⟨_, rfl⟩
          have HQ2 := Lib.hid hq2
          have HLS : Hid (∀ W, Calls Tryd.prog 163 #[.agg #[.int .i64 y.d, .int .u64 y.t, .int .i64 y.s, .int .i64 y.k, .int .i64 y.a0, .int .i64 y.a1, .int .i64 y.a2, .int .i64 y.a3, .int .i64 y.a4, .int .i64 y.a5], .agg #[.int .i64 x.d, .int .u64 x.t, .int .i64 x.s, .int .i64 x.k, .int .i64 x.a0, .int .i64 x.a1, .int .i64 x.a2, .int .i64 x.a3, .int .i64 x.a4, .int .i64 x.a5]] W fun e w' => e = .returned (.bool q2) ∧ Below W.heap.size W w') := Lib.hid (fun W => by
            have := less_any y x W
            rw [hq2] at this
            exact this)
          unfold PAt at hat
          obtain ⟨c0, c1, c2, c3, c4, c5, c6, c7, c8, c9⟩ := hat
          have hs1 : IntKind.i64.wrap ((k : Int) - 1) = (j : Int) := by rw [IntKind.wrap_i64]; omega
          have hG : decide ((0 : Int) < (k : Int)) = true := by simp; omega
          have hG2 : decide (0 < k) = true := by simp; omega
          have hjn : (j : Int) < (n : Int) := by omega
          have hj0 : (0 : Int) ≤ (j : Int) := by omega
          have HJ := Lib.hid hj
          clear hy hq2 hj
          cases q2
          all_goals
            refine wp_region_later (by kernel_rfl) (by kernel_rfl) ?_
            repeat (go_big_quiet_step (first | (go_at_call 25; with_reducible exact later_call (HM.out _)) | (go_at_call 163; with_reducible exact later_call (HLS.out _))))
            refine wpQuiet_nil ?_
            rintro w2 ⟨u, rfl⟩
            go_wp2
          · go_ret
            refine ⟨ret_bool ?_, HB0.out.trans (u.prop.mono HB0.out.size)⟩
            cases hbv : bv
            · rfl
            · have := (HBV.out.1 hbv).2 j y x HY.out (by rw [HJ.out]; exact HX.out)
              rw [HQ2.out] at this
              cases this
          · go_roundw
            case rel =>
              refine ⟨k + 1, by omega, by go_num, HB0.out.trans (u.prop.mono HB0.out.size), fun z hz => ?_, fun i x' y' hi h1 h2 => ?_⟩
              · rw [List.take_add_one, HX.out] at hz
                rcases List.mem_append.1 hz with hz | hz
                · exact HMAY.out z hz
                · have : z = x := by simpa using hz
                  rw [this]; exact HQ.out
              · rcases (by omega : i + 1 < k ∨ i + 1 = k) with h | h
                · exact HLESS.out i x' y' h h1 h2
                · have hij : i = j := by have := HJ.out; omega
                  subst hij
                  rw [HY.out] at h1; injection h1 with h1
                  rw [h, HX.out] at h2; injection h2 with h2
                  rw [← h1, ← h2]; exact HQ2.out
            case measure => simp [intOf]; omega
    · obtain rfl : k = n := by omega
      have HF : Hid (bv = true) := Lib.hid (HBV.out.2 ⟨fun z hz => HMAY.out z (by rw [List.take_of_length_le (by have := HN.out; omega)]; exact hz), fun i x y h1 h2 => HLESS.out i x y (by have := (List.getElem?_eq_some_iff.1 h2).1; have := HN.out; omega) h1 h2⟩)
      go_wp2
      go_ret
      exact ⟨ret_bool HF.out.symm, HBW.out⟩
end Go.Proofs.YtellhmbebimenaaDoor
end
