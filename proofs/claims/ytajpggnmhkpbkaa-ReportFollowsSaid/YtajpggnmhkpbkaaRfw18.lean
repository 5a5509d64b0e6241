/- Contract: slices.symMergeCmpFunc at postings: two sorted runs become one, those of one key as they were. -/
import Derived.Test.YtajpggnmhkpbkaaRfw17

set_option linter.unusedVariables false
set_option linter.unusedSimpArgs false
namespace Go.Proofs.Ytajpggnmhkpbkaa
open Go.RowKit
attribute [local go_sem ↓] post_execLoad post_execStore

attribute [local go_sem] post_load post_store loL_drew okL_drew there_sc World.there_drew

/-- what the call does, at runs of at most n elements -/
def SymM (n : Nat) : Prop := ∀ (P x y Q : List Pst) (g cap : Nat) (w : World), x.length + y.length ≤ n → 0 < x.length → 0 < y.length → WF x → WF y → Srt.Up keyP x → Srt.Up keyP y → (P ++ x ++ y ++ Q).length ≤ cap → (P ++ x ++ y ++ Q).length ≤ 1099511627776 →
    RowL Pst.cells 10 w g (P ++ x ++ y ++ Q) →
    Calls Try.prog 88 #[.slice (some ⟨g, 0, none⟩) (P ++ x ++ y ++ Q).length cap, .int .i64 (P.length : Int), .int .i64 ((P ++ x).length : Int), .int .i64 ((P ++ x ++ y).length : Int), .func (.func 61) #[] #[]] w
      fun v w' => v = .returned (.tuple #[]) ∧ ∃ s', Srt.Mix keyP (x ++ y) s' ∧ Srt.Up keyP s' ∧ RowL Pst.cells 10 w' g (P ++ s' ++ Q) ∧ Only g w w'
theorem SymM.maybe {n : Nat} (IH : SymM n) (P x y Q : List Pst) (g cap : Nat) (w : World) (h1 : x.length + y.length ≤ n) (h2 : 0 < x.length) (h3 : 0 < y.length) (h4 : WF x) (h5 : WF y) (h6 : Srt.Up keyP x) (h7 : Srt.Up keyP y) (N a m b : Nat) (hN : (P ++ x ++ y ++ Q).length = N)
    (ha : P.length = a) (hm : (P ++ x).length = m) (hb : (P ++ x ++ y).length = b) (hcap : N ≤ cap) (hmax : N ≤ 1099511627776) (hr : RowL Pst.cells 10 w g (P ++ x ++ y ++ Q)) :
    Calls Try.prog 88 #[.slice (some ⟨g, 0, none⟩) N cap, .int .i64 (a : Int), .int .i64 (m : Int), .int .i64 (b : Int), .func (.func 61) #[] #[]] w
      fun v w' => v = .returned (.tuple #[]) ∧ ∃ s', Srt.Mix keyP (x ++ y) s' ∧ Srt.Up keyP s' ∧ RowL Pst.cells 10 w' g (P ++ s' ++ Q) ∧ Only g w w' := by
  have := IH P x y Q g cap w h1 h2 h3 h4 h5 h6 h7 (by omega) (by omega) hr
  rw [hN, ha, hm, hb] at this
  exact this
/-- the place where the runs are cut -/
structure CutAt (x y : List Pst) (h s : Nat) : Prop where
  sx : s ≤ x.length
  sh : s ≤ h
  hy : h - s ≤ y.length
  low : ∀ a b : Pst, 0 < s → x[s - 1]? = some a → y[h - s]? = some b → keyP a ≤ keyP b
  high : ∀ a b : Pst, s < h → x[s]? = some a → y[h - s - 1]? = some b → keyP b < keyP a
theorem CutAt.h21 {x y : List Pst} {h s : Nat} (c : CutAt x y h s) (hx : Srt.Up keyP x) (hy : Srt.Up keyP y) : ∀ a ∈ x.drop s, ∀ b ∈ y.take (h - s), keyP b < keyP a := by
  intro a ha b hb
  obtain ⟨i, hi⟩ := Srt.mem_at ha
  obtain ⟨j, hj⟩ := Srt.mem_at hb
  have c1 := c.sx; have c2 := c.sh; have c3 := c.hy
  have hjl := (List.getElem?_eq_some_iff.1 hj).1
  rw [List.length_take] at hjl
  rw [List.getElem?_drop] at hi
  rw [List.getElem?_take_of_lt (by omega)] at hj
  have hil := (List.getElem?_eq_some_iff.1 hi).1
  obtain ⟨a0, ha0⟩ : ∃ z, x[s]? = some z := ⟨_, List.getElem?_eq_getElem (by omega)⟩
  obtain ⟨b0, hb0⟩ : ∃ z, y[h - s - 1]? = some z := ⟨_, List.getElem?_eq_getElem (by omega)⟩
  have h1 := c.high a0 b0 (by omega) ha0 hb0
  have h2 := hx.at (i := s) (j := s + i) (by omega) ha0 hi
  have h3 := hy.at (i := j) (j := h - s - 1) (by omega) hj hb0
  omega
theorem CutAt.h12 {x y : List Pst} {h s : Nat} (c : CutAt x y h s) (hx : Srt.Up keyP x) (hy : Srt.Up keyP y) : ∀ a ∈ x.take s, ∀ b ∈ y.drop (h - s), keyP a ≤ keyP b := by
  intro a ha b hb
  obtain ⟨i, hi⟩ := Srt.mem_at ha
  obtain ⟨j, hj⟩ := Srt.mem_at hb
  have c1 := c.sx; have c2 := c.sh; have c3 := c.hy
  have hil := (List.getElem?_eq_some_iff.1 hi).1
  rw [List.length_take] at hil
  rw [List.getElem?_take_of_lt (by omega)] at hi
  rw [List.getElem?_drop] at hj
  have hjl := (List.getElem?_eq_some_iff.1 hj).1
  obtain ⟨a0, ha0⟩ : ∃ z, x[s - 1]? = some z := ⟨_, List.getElem?_eq_getElem (by omega)⟩
  obtain ⟨b0, hb0⟩ : ∃ z, y[h - s]? = some z := ⟨_, List.getElem?_eq_getElem (by omega)⟩
  have h1 := c.low a0 b0 (by omega) ha0 hb0
  have h2 := hx.at (i := i) (j := s - 1) (by omega) hi ha0
  have h3 := hy.at (i := h - s) (j := h - s + j) (by omega) hb0 hj
  omega
/-- one half's merge -/
theorem half_done {x y : List Pst} (hx : Srt.Up keyP x) (hy : Srt.Up keyP y) (h : ¬ (0 < x.length ∧ 0 < y.length)) : Srt.Up keyP (x ++ y) := by
  rcases (by omega : x.length = 0 ∨ y.length = 0) with h | h
  · rw [List.length_eq_zero_iff.1 h]; exact hy
  · rw [List.length_eq_zero_iff.1 h, List.append_nil]; exact hx

set_option maxHeartbeats 1000000 in
theorem sym_pack (n : Nat) (IH : SymM n) (P x y Q : List Pst) (g cap N a m b hh mid s p en : Nat) (hxy : x.length + y.length ≤ n + 1) (hx : 1 < x.length) (hy : 1 < y.length) (hwx : WF x) (hwy : WF y) (hxu : Srt.Up keyP x) (hyu : Srt.Up keyP y)
    (hN : (P ++ x ++ y ++ Q).length = N) (hcap : N ≤ cap) (hmax : N ≤ 1099511627776) (ha : P.length = a) (hm : m = a + x.length) (hb : b = m + y.length) (hh2 : hh = (x.length + y.length) / 2) (hmid : mid = a + hh) (hp : p = a + s) (hen : en = m + (hh - s)) (hcut : CutAt x y hh s) :
    ∃ x1 x2 y1 y2 : List Pst, (∀ W, RowL Pst.cells 10 W g (P ++ x ++ y ++ Q) → RowL Pst.cells 10 W g (P ++ x1 ++ x2 ++ y1 ++ (y2 ++ Q))) ∧
      (0 < x2.length → 0 < y1.length → ∀ W, RowL Pst.cells 10 W g (P ++ x1 ++ x2 ++ y1 ++ (y2 ++ Q)) → Calls Try.prog 95 #[.slice (some ⟨g, 0, none⟩) N cap, .int .i64 (p : Int), .int .i64 (m : Int), .int .i64 (en : Int), .func (.func 61) #[] #[]] W
            fun v w' => v = .returned (.tuple #[]) ∧ RowL Pst.cells 10 w' g (P ++ x1 ++ y1 ++ x2 ++ (y2 ++ Q)) ∧ Only g W w') ∧
      (0 < x1.length → 0 < y1.length → ∀ W, RowL Pst.cells 10 W g (P ++ x1 ++ y1 ++ (x2 ++ y2 ++ Q)) → Calls Try.prog 88 #[.slice (some ⟨g, 0, none⟩) N cap, .int .i64 (a : Int), .int .i64 (p : Int), .int .i64 (mid : Int), .func (.func 61) #[] #[]] W
            fun v w' => v = .returned (.tuple #[]) ∧ ∃ s', Srt.Mix keyP (x1 ++ y1) s' ∧ Srt.Up keyP s' ∧ RowL Pst.cells 10 w' g (P ++ s' ++ (x2 ++ y2 ++ Q)) ∧ Only g W w') ∧
      (0 < x2.length → 0 < y2.length → ∀ l W, l.length = hh → RowL Pst.cells 10 W g ((P ++ l) ++ x2 ++ y2 ++ Q) → Calls Try.prog 88 #[.slice (some ⟨g, 0, none⟩) N cap, .int .i64 (mid : Int), .int .i64 (en : Int), .int .i64 (b : Int), .func (.func 61) #[] #[]] W
            fun v w' => v = .returned (.tuple #[]) ∧ ∃ s', Srt.Mix keyP (x2 ++ y2) s' ∧ Srt.Up keyP s' ∧ RowL Pst.cells 10 w' g ((P ++ l) ++ s' ++ Q) ∧ Only g W w') ∧
      (∀ l r w0 wr W, Only g w0 wr → Srt.Mix keyP (x1 ++ y1) l → Srt.Up keyP l → Srt.Mix keyP (x2 ++ y2) r → Srt.Up keyP r → RowL Pst.cells 10 W g ((P ++ l) ++ r ++ Q) → Only g wr W → ∃ s', Srt.Mix keyP (x ++ y) s' ∧ Srt.Up keyP s' ∧ RowL Pst.cells 10 W g (P ++ s' ++ Q) ∧ Only g w0 W) ∧
      (¬ (0 < x1.length ∧ 0 < y1.length) → Srt.Up keyP (x1 ++ y1)) ∧ (¬ (0 < x2.length ∧ 0 < y2.length) → Srt.Up keyP (x2 ++ y2)) ∧
      (¬ (0 < x2.length ∧ 0 < y1.length) → ∀ W, RowL Pst.cells 10 W g (P ++ x1 ++ x2 ++ y1 ++ (y2 ++ Q)) → RowL Pst.cells 10 W g (P ++ x1 ++ y1 ++ x2 ++ (y2 ++ Q))) ∧
      (x1 ++ y1).length = hh ∧ x1.length = s ∧ x2.length = x.length - s ∧ y1.length = hh - s ∧ y2.length = y.length - (hh - s) := by
  have c1 := hcut.sx; have c2 := hcut.sh; have c3 := hcut.hy
  refine ⟨x.take s, x.drop s, y.take (hh - s), y.drop (hh - s), ?_⟩
  have ex := List.take_append_drop s x
  have ey := List.take_append_drop (hh - s) y
  have l1 : (x.take s).length = s := by rw [List.length_take]; omega
  have l2 : (x.drop s).length = x.length - s := by rw [List.length_drop]
  have l3 : (y.take (hh - s)).length = hh - s := by rw [List.length_take]; omega
  have l4 : (y.drop (hh - s)).length = y.length - (hh - s) := by rw [List.length_drop]
  have H21 := hcut.h21 hxu hyu; have H12 := hcut.h12 hxu hyu
  generalize x.take s = x1 at *
  generalize x.drop s = x2 at *
  generalize y.take (hh - s) = y1 at *
  generalize y.drop (hh - s) = y2 at *
  have hxu' : Srt.Up keyP (x1 ++ x2) := ex.symm ▸ hxu
  have hyu' : Srt.Up keyP (y1 ++ y2) := ey.symm ▸ hyu
  have w1 : WF x1 := fun z hz => hwx z (by rw [← ex]; simp [hz])
  have w2 : WF x2 := fun z hz => hwx z (by rw [← ex]; simp [hz])
  have w3 : WF y1 := fun z hz => hwy z (by rw [← ey]; simp [hz])
  have w4 : WF y2 := fun z hz => hwy z (by rw [← ey]; simp [hz])
  have hN' : P.length + x.length + y.length + Q.length = N := by rw [← hN]; simp; omega
  refine ⟨fun W hW => ?_, fun k1 k2 W hW => ?_, fun k1 k2 W hW => ?_, fun k1 k2 l W hl hW => ?_, fun l r w0 wr W k0 k1 k2 k3 k4 k5 k6 => ?_, half_done hxu'.parts.1 hyu'.parts.1, half_done hxu'.parts.2.1 hyu'.parts.2.1, fun hno W hW => ?_, by rw [List.length_append, l1, l3]; omega, l1, l2, l3, l4⟩
  · rw [← ex, ← ey] at hW; simpa using hW
  · have t1 : (P ++ x1 ++ x2 ++ y1 ++ (y2 ++ Q)).length = N := by simp only [List.length_append, l1, l2, l3, l4]; omega
    have t2 : (P ++ x1).length = p := by rw [List.length_append, ha, l1, hp]
    have t3 : (P ++ x1 ++ x2).length = m := by rw [List.length_append, t2, l2]; omega
    have t4 : (P ++ x1 ++ x2 ++ y1).length = en := by rw [List.length_append, t3, l3, hen]
    have := rotate_any (P ++ x1) x2 y1 (y2 ++ Q) (.func (.func 61) #[] #[]) g cap W k1 k2 (by omega) (by omega) hW
    rw [t1, t2, t3, t4] at this
    exact this
  · exact IH.maybe P x1 y1 (x2 ++ y2 ++ Q) g cap W (by omega) k1 k2 w1 w3 hxu'.parts.1 hyu'.parts.1 N a p mid (by simp only [List.length_append, l1, l2, l3, l4]; omega) ha (by rw [List.length_append, ha, l1, hp]) (by rw [List.length_append, List.length_append, ha, l1, l3]; omega) hcap hmax hW
  · exact IH.maybe (P ++ l) x2 y2 Q g cap W (by omega) k1 k2 w2 w4 hxu'.parts.2.1 hyu'.parts.2.1 N mid en b (by simp only [List.length_append, hl, l2, l4]; omega) (by rw [List.length_append, ha, hl]; omega) (by simp only [List.length_append, ha, hl, l2]; omega) (by simp only [List.length_append, ha, hl, l2, l4]; omega) hcap hmax hW
  · have := Srt.merge_cut hxu' hyu' H21 H12 k1 k2 k3 k4
    rw [ex, ey] at this
    exact ⟨l ++ r, this.1, this.2, by simpa using k5, k0.trans k6⟩
  · rcases (by omega : x2.length = 0 ∨ y1.length = 0) with k | k
    · have k := List.length_eq_zero_iff.1 k; rw [k] at hW ⊢; simpa using hW
    · have k := List.length_eq_zero_iff.1 k; rw [k] at hW ⊢; simpa using hW

/-- there is one such place alone -/
theorem CutAt.only {x y : List Pst} {h s s' : Nat} (c : CutAt x y h s) (d : CutAt x y h s') (hx : Srt.Up keyP x) (hy : Srt.Up keyP y) : ¬ s < s' := by
  intro hlt
  have c1 := c.sx; have c2 := c.sh; have c3 := c.hy; have d1 := d.sx; have d2 := d.sh; have d3 := d.hy
  obtain ⟨a, ha⟩ : ∃ z, x[s]? = some z := ⟨_, List.getElem?_eq_getElem (by omega)⟩
  obtain ⟨a', ha'⟩ : ∃ z, x[s' - 1]? = some z := ⟨_, List.getElem?_eq_getElem (by omega)⟩
  obtain ⟨b, hb⟩ : ∃ z, y[h - s - 1]? = some z := ⟨_, List.getElem?_eq_getElem (by omega)⟩
  obtain ⟨b', hb'⟩ : ∃ z, y[h - s']? = some z := ⟨_, List.getElem?_eq_getElem (by omega)⟩
  have h1 := c.high a b (by omega) ha hb
  have h2 := d.low a' b' (by omega) ha' hb'
  have h3 := hx.at (i := s) (j := s' - 1) (by omega) ha ha'
  have h4 := hy.at (i := h - s') (j := h - s - 1) (by omega) hb' hb
  omega
theorem CutAt.same {x y : List Pst} {h s s' : Nat} (c : CutAt x y h s) (d : CutAt x y h s') (hx : Srt.Up keyP x) (hy : Srt.Up keyP y) : s = s' := by
  have h1 := c.only d hx hy
  have h2 := d.only c hx hy
  omega
end Go.Proofs.Ytajpggnmhkpbkaa
