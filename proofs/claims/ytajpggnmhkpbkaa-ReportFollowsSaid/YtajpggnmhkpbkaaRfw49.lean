/- Plain law: the rows of some days, of postings that may be; those of days that follow each other are together those of all of them. Contracts: slices.Equal of postings, report.Same. -/
import Derived.Test.YtajpggnmhkpbkaaRfw42
import Derived.Test.YtajpggnmhkpbkaaRfw48
import Derived.Test.YtajpggnmhkpbkaaRfw28
import Derived.Test.YtajpggnmhkpbkaaRfw30

section
set_option linter.unusedVariables false
namespace Go.Proofs.Ytajpggnmhkpbkaa
namespace Rep
/-- the rows of some days, in order -/
def rows (a b : Int) (l : List Pst) : List Pst := Srt.isort keyP (l.filter (within a b))
theorem rows_perm (a b : Int) (l : List Pst) : (l.filter (within a b)).Perm (rows a b l) := (Srt.isort_mix _ _).perm
theorem rows_wf {a b : Int} {l : List Pst} (hw : WF l) : WF (rows a b l) := fun z hz => hw z (List.mem_filter.1 ((rows_perm a b l).mem_iff.2 hz)).1
theorem fine_filter {l : List Pst} (h : FineP l) (q : Pst → Bool) : FineP (l.filter q) := by
  have h1 := (fine_pairwise l).1 h
  exact (fine_pairwise _).2 ⟨fun p hp => h1.1 p (List.mem_filter.1 hp).1, List.Pairwise.filter _ h1.2⟩
theorem rows_fine {a b : Int} {l : List Pst} (h : FineP l) : FineP (rows a b l) := (fine_perm (rows_perm a b l)).1 (fine_filter h _)
theorem rows_within {a b : Int} {l : List Pst} : ∀ z ∈ rows a b l, within a b z = true := fun z hz => (List.mem_filter.1 ((rows_perm a b l).mem_iff.2 hz)).2
theorem rows_length (a b : Int) (l : List Pst) : (rows a b l).length ≤ l.length := by
  rw [← (rows_perm a b l).length_eq]
  exact List.length_filter_le _ _
def cols (s : List Pst) : List Int := [Post.colS (·.a0) s, Post.colS (·.a1) s, Post.colS (·.a2) s, Post.colS (·.a3) s, Post.colS (·.a4) s, Post.colS (·.a5) s]
theorem rows_sums {a b : Int} {l : List Pst} (hf : FineP l) (hl : l.length ≤ 60) : Post.sums (rows a b l) = ⟨0, (rows a b l).length, cols (rows a b l)⟩ :=
  Post.sums_cols (rows_fine hf).1 (Nat.le_trans (rows_length a b l) hl)
theorem rows_may {a b : Int} {l : List Pst} (hf : FineP l) (hl : l.length ≤ 60) (hd : days a b = true) : MayP a b (rows a b l) (rows a b l).length (cols (rows a b l)) :=
  ⟨hd, rows_fine hf, rows_within, Srt.isort_up _ _, rows_sums hf hl⟩
theorem rows_str {a b : Int} {l : List Pst} (hw : WF l) (hf : FineP l) (hl : l.length ≤ 60) (hd : days a b = true) : Str (rows a b l) := str_of_may (rows_wf hw) (rows_may hf hl hd)
theorem str_only {s t : List Pst} (hs : Str s) (ht : Str t) (h : s.Perm t) : s = t := Srt.Up.only _ _ hs.up ht.up (mix_of_perm h ht)
theorem filter_parts {a b c : Int} (hab : a ≤ b + 1) (hbc : b ≤ c) (l : List Pst) : (l.filter (within a b) ++ l.filter (within (b + 1) c)).Perm (l.filter (within a c)) := by
  induction l with
  | nil => exact List.Perm.refl _
  | cons p l ih =>
    by_cases h1 : within a b p = true
    · have h2 : ¬ within (b + 1) c p = true := by unfold within at h1 ⊢; simp at h1 ⊢; omega
      have h3 : within a c p = true := by unfold within at h1 ⊢; simp at h1 ⊢; omega
      rw [List.filter_cons_of_pos h1, List.filter_cons_of_neg h2, List.filter_cons_of_pos h3]
      exact List.Perm.cons _ ih
    · by_cases h2 : within (b + 1) c p = true
      · have h3 : within a c p = true := by unfold within at h2 ⊢; simp at h2 ⊢; omega
        rw [List.filter_cons_of_neg h1, List.filter_cons_of_pos h2, List.filter_cons_of_pos h3]
        exact List.perm_middle.trans (List.Perm.cons _ ih)
      · have h3 : ¬ within a c p = true := by unfold within at h1 h2 ⊢; simp at h1 h2 ⊢; omega
        rw [List.filter_cons_of_neg h1, List.filter_cons_of_neg h2, List.filter_cons_of_neg h3]
        exact ih
theorem rows_parts {a b c : Int} (hab : a ≤ b + 1) (hbc : b ≤ c) (l : List Pst) : (rows a b l ++ rows (b + 1) c l).Perm (rows a c l) :=
  (((rows_perm a b l).symm.append (rows_perm (b + 1) c l).symm).trans (filter_parts hab hbc l)).trans (rows_perm a c l)
theorem rows_both {a b c : Int} {l : List Pst} (hab : a ≤ b + 1) (hbc : b ≤ c) (hf : FineP l) : FineP (rows a b l ++ rows (b + 1) c l) := (fine_perm (rows_parts hab hbc l)).2 (rows_fine hf)
theorem rows_join {a b c : Int} {l s : List Pst} (hab : a ≤ b + 1) (hbc : b ≤ c) (hw : WF l) (hf : FineP l) (hl : l.length ≤ 60) (hd : days a c = true) (hs : Str s) (h : (rows a b l ++ rows (b + 1) c l).Perm s) : s = rows a c l :=
  str_only hs (rows_str hw hf hl hd) (h.symm.trans (rows_parts hab hbc l))
theorem filter_up {a b c : Int} (hbc : b ≤ c) (l : List Pst) : (l.filter (within a c)).filter (upTo b) = l.filter (within a b) := by
  rw [List.filter_filter]
  refine List.filter_congr fun z _ => ?_
  unfold upTo within
  rw [Bool.eq_iff_iff]
  simp
  omega
theorem filter_be {a b c : Int} (hab : a ≤ b + 1) (l : List Pst) : (l.filter (within a c)).filter (behind b) = l.filter (within (b + 1) c) := by
  rw [List.filter_filter]
  refine List.filter_congr fun z _ => ?_
  unfold behind within
  rw [Bool.eq_iff_iff]
  simp
  omega
theorem rows_up {a b c : Int} {l : List Pst} (hbc : b ≤ c) (hw : WF l) (hf : FineP l) (hl : l.length ≤ 60) (hd : days a c = true) (hd2 : days a b = true) : (rows a c l).filter (upTo b) = rows a b l := by
  refine str_only (List.Pairwise.filter _ (rows_str hw hf hl hd)) (rows_str hw hf hl hd2) ?_
  have h := (rows_perm a c l).symm.filter (upTo b)
  rw [filter_up hbc] at h
  exact h.trans (rows_perm a b l)
theorem rows_be {a b c : Int} {l : List Pst} (hab : a ≤ b + 1) (hw : WF l) (hf : FineP l) (hl : l.length ≤ 60) (hd : days a c = true) (hd2 : days (b + 1) c = true) : (rows a c l).filter (behind b) = rows (b + 1) c l := by
  refine str_only (List.Pairwise.filter _ (rows_str hw hf hl hd)) (rows_str hw hf hl hd2) ?_
  have h := (rows_perm a c l).symm.filter (behind b)
  rw [filter_be hab] at h
  exact h.trans (rows_perm (b + 1) c l)
theorem cols_parts {a b c : Int} (hab : a ≤ b + 1) (hbc : b ≤ c) (l : List Pst) (f : Pst → Int) : Post.colS f (rows a c l) = Post.colS f (rows a b l) + Post.colS f (rows (b + 1) c l) := by
  rw [← Post.colS_append, Post.colS_perm f (rows_parts hab hbc l)]
theorem length_parts {a b c : Int} (hab : a ≤ b + 1) (hbc : b ≤ c) (l : List Pst) : (rows a c l).length = (rows a b l).length + (rows (b + 1) c l).length := by
  rw [← List.length_append, (rows_parts hab hbc l).length_eq]
end Rep
end Go.Proofs.Ytajpggnmhkpbkaa
end

section
set_option linter.unusedVariables false
set_option linter.unusedSimpArgs false
namespace Go.Proofs.Ytajpggnmhkpbkaa
open Go.RowKit
attribute [local go_sem ↓] post_execLoad post_execStore

attribute [local go_sem] post_load post_store loL_drew okL_drew there_sc World.there_drew

set_option maxRecDepth 4000 in
set_option maxRecDepth 4000 in
set_option maxHeartbeats 400000 in
theorem pEqualL_any (l m : List Pst) (bv : Bool) (hbv : bv = true ↔ l = m) (p p' : Option Addr) (n n' cap cap' : Nat) (w : World) (hs : LS Pst.cells 10 w (.slice p n cap) l) (hs' : LS Pst.cells 10 w (.slice p' n' cap') m) :
    Calls Try.prog 53 #[.slice p n cap, .slice p' n' cap'] w fun e w' => e = .returned (.bool bv) ∧ Below w.heap.size w w' := by
  have HL := Lib.hid hs.length
  have HL' := Lib.hid hs'.length
  have HS := Lib.hid hs; have HS' := Lib.hid hs'; have HBV := Lib.hid hbv
  have hmax : n ≤ 9223372036854775807 := by have h1 := HL.out.2.1; have h2 := HL.out.2.2; simp only [maxLen] at h2; omega
  have hmax' : n' ≤ 9223372036854775807 := by have h1 := HL'.out.2.1; have h2 := HL'.out.2.2; simp only [maxLen] at h2; omega
  clear hs hs' hbv
  by_cases hnn : n = n'
  · subst hnn
    go_enter Try.func53, Try.ntmps53
    go_wp2
    go_loopw [13] (fun i wr => ∃ k : Nat, k ≤ n ∧ i = .int .i64 k ∧ Below w.heap.size w wr ∧ l.take k = m.take k) (fun i _ => n - (intOf i).toNat)
    case atStart => exact ⟨0, Nat.zero_le _, rfl, Below.refl _ _, rfl⟩
    case round =>
      obtain ⟨k, hk, rfl, hbw, heq⟩ := hrel
      have HBW := Lib.hid hbw; have HEQ := Lib.hid heq
      clear heq
      by_cases hlt : k < n
      · obtain ⟨x, hx⟩ : ∃ x, l[k]? = some x := ⟨_, List.getElem?_eq_getElem (by have := HL.out.1; omega)⟩
        obtain ⟨y, hy⟩ : ∃ y, m[k]? = some y := ⟨_, List.getElem?_eq_getElem (by have := HL'.out.1; omega)⟩
        have HX := Lib.hid hx; have HY := Lib.hid hy
        obtain ⟨b, o, rfl, hb, hr⟩ := (HS.out.below hbw).at hx
        obtain ⟨b', o', rfl, hb', hr'⟩ := (HS'.out.below hbw).at hy
        obtain ⟨f1, f2⟩ := loL_of hr (Pst.cells_length x)
        obtain ⟨f3, f4⟩ := loL_of hr' (Pst.cells_length y)
        obtain ⟨q, hq⟩ : ∃ q, Rep.sameP x y = q := ⟨_, rfl⟩
        have hE : ∀ W, (Op.equalIn 10000 68 (.agg x.cells.toArray) (.agg y.cells.toArray)).run Try.prog W = .ok q W := fun W => by rw [← hq]; exact eqInG x y W
        have HQ := Lib.hid (hq ▸ Rep.sameP_iff x y : (q = true ↔ x = y))
        have hG := guardPn
        generalize x.cells = cx at *
        generalize y.cells = cy at *
        clear hx hy hr hr' hbw hq
        cases q
        · go_wp2_with fail
          go_region
          go_wp2
          go_ret
          refine ⟨ret_bool ?_, HBW.out.drew⟩
          cases hb : bv
          · rfl
          · have h1 := HBV.out.1 hb
            have h2 := HX.out
            rw [h1, HY.out] at h2
            injection h2 with h2
            exact absurd (HQ.out.2 h2.symm) (by simp)
        · go_wp2_with fail
          go_region
          go_wp2
          go_roundw
          case rel => exact ⟨k + 1, by omega, by go_num, HBW.out.drew, by rw [List.take_add_one, List.take_add_one, HX.out, HY.out, HEQ.out, HQ.out.1 (by trivial)]⟩
          case measure => simp [intOf]; omega
      · obtain rfl : k = n := by omega
        have HF : Hid (bv = true) := Lib.hid (HBV.out.2 (by
          have := HEQ.out
          rwa [List.take_of_length_le (by have := HL.out.1; omega), List.take_of_length_le (by have := HL'.out.1; omega)] at this))
        go_wp2
        go_ret
        exact ⟨ret_bool HF.out.symm, HBW.out⟩
  · have HF : Hid (bv = false) := Lib.hid (by
      cases hb : bv
      · rfl
      · exact absurd (by rw [HL.out.1, HL'.out.1, HBV.out.1 hb]) hnn)
    have hnni : ¬ (n : Int) = (n' : Int) := by omega
    go_enter Try.func53, Try.ntmps53
    go_wp2
    go_ret
    exact ⟨ret_bool HF.out.symm, Below.refl _ _⟩

set_option maxRecDepth 4000 in
set_option maxHeartbeats 1000000 in
theorem pSameR_any (f t f' t' m x0 x1 x2 x3 x4 x5 m' y0 y1 y2 y3 y4 y5 : Int) (l l' : List Pst) (p p' : Option Addr) (n n' cap cap' : Nat) (bv : Bool) (hbv : bv = true ↔ (f = f' ∧ t = t' ∧ (m = m' ∧ x0 = y0 ∧ x1 = y1 ∧ x2 = y2 ∧ x3 = y3 ∧ x4 = y4 ∧ x5 = y5) ∧ l = l')) (w : World) (hs : LS Pst.cells 10 w (.slice p n cap) l) (hs' : LS Pst.cells 10 w (.slice p' n' cap') l') :
    Calls Try.prog 22 #[.agg #[.int .i64 f, .int .i64 t, .slice p n cap, .int .i64 m, .int .i64 x0, .int .i64 x1, .int .i64 x2, .int .i64 x3, .int .i64 x4, .int .i64 x5], .agg #[.int .i64 f', .int .i64 t', .slice p' n' cap', .int .i64 m', .int .i64 y0, .int .i64 y1, .int .i64 y2, .int .i64 y3, .int .i64 y4, .int .i64 y5]] w fun e w' => e = .returned (.bool bv) ∧ Below w.heap.size w w' := by
  have hb0 := (((Below.refl w.heap.size w).alloc (Nat.le_refl _) (.cells #[.int .i64 f, .int .i64 t, .slice p n cap, .int .i64 m, .int .i64 x0, .int .i64 x1, .int .i64 x2, .int .i64 x3, .int .i64 x4, .int .i64 x5] 43 (0, 0))).alloc (by simp) (.cells #[.int .i64 f', .int .i64 t', .slice p' n' cap', .int .i64 m', .int .i64 y0, .int .i64 y1, .int .i64 y2, .int .i64 y3, .int .i64 y4, .int .i64 y5] 43 (0, 0)))
  have HB0 := Lib.hid hb0
  have HS := Lib.hid (hs.below hb0); have HS' := Lib.hid (hs'.below hb0)
  have HBV := Lib.hid hbv
  clear hs hs' hb0 hbv
  by_cases hf : f = f'
  · subst hf
    by_cases ht : t = t'
    · subst ht
      obtain ⟨q, hq⟩ : ∃ q, Rep.sameT m x0 x1 x2 x3 x4 x5 m' y0 y1 y2 y3 y4 y5 = q := ⟨_, rfl⟩
      have hE1 : ∀ W, (Op.equalIn 10000 41 (.agg #[.int .i64 m, .int .i64 x0, .int .i64 x1, .int .i64 x2, .int .i64 x3, .int .i64 x4, .int .i64 x5]) (.agg #[.int .i64 m', .int .i64 y0, .int .i64 y1, .int .i64 y2, .int .i64 y3, .int .i64 y4, .int .i64 y5])).run Try.prog W = .ok q W := fun W => by rw [← hq]; exact eqInTG m x0 x1 x2 x3 x4 x5 m' y0 y1 y2 y3 y4 y5 W
      have hE2 : ∀ W, (binOp .eql 41 (.agg #[.int .i64 m, .int .i64 x0, .int .i64 x1, .int .i64 x2, .int .i64 x3, .int .i64 x4, .int .i64 x5]) (.agg #[.int .i64 m', .int .i64 y0, .int .i64 y1, .int .i64 y2, .int .i64 y3, .int .i64 y4, .int .i64 y5])).run Try.prog W = .ok (.bool q) W := fun W => by rw [← hq]; exact eqTG m x0 x1 x2 x3 x4 x5 m' y0 y1 y2 y3 y4 y5 W
      have hG := guardTe
      have HQ := Lib.hid (hq ▸ Rep.sameT_iff m x0 x1 x2 x3 x4 x5 m' y0 y1 y2 y3 y4 y5 : (q = true ↔ (m = m' ∧ x0 = y0 ∧ x1 = y1 ∧ x2 = y2 ∧ x3 = y3 ∧ x4 = y4 ∧ x5 = y5)))
      clear hq
      cases q
      · have HF : Hid (bv = false) := Lib.hid (by
          cases hb : bv
          · rfl
          · exact absurd (HQ.out.2 (HBV.out.1 hb).2.2.1) (by simp))
        go_enter Try.func22, Try.ntmps22
        go_wp2
        go_ret
        exact ⟨ret_bool HF.out.symm, HB0.out⟩
      · have HF : Hid (bv = true ↔ l = l') := Lib.hid ⟨fun h => (HBV.out.1 h).2.2.2, fun h => HBV.out.2 ⟨rfl, rfl, HQ.out.1 (by trivial), h⟩⟩
        go_enter Try.func22, Try.ntmps22
        go_wp2_with fail
        refine (pEqualL_any l l' bv HF.out p p' n n' cap cap' _ HS.out HS'.out).mono ?_
        rintro e w1 ⟨rfl, hb1⟩
        have HB1 := Lib.hid (HB0.out.trans (hb1.mono HB0.out.size))
        clear hb1
        go_wp2
        go_ret
        exact ⟨rfl, HB1.out⟩
    · have HF : Hid (bv = false) := Lib.hid (by
        cases hb : bv
        · rfl
        · exact absurd (HBV.out.1 hb).2.1 ht)
      go_enter Try.func22, Try.ntmps22
      go_wp2
      go_ret
      exact ⟨ret_bool HF.out.symm, HB0.out⟩
  · have HF : Hid (bv = false) := Lib.hid (by
      cases hb : bv
      · rfl
      · exact absurd (HBV.out.1 hb).1 hf)
    go_enter Try.func22, Try.ntmps22
    go_wp2
    go_ret
    exact ⟨ret_bool HF.out.symm, HB0.out⟩
end Go.Proofs.Ytajpggnmhkpbkaa
end
