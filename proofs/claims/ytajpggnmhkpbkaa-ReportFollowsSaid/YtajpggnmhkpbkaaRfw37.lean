/- Contracts: which reports may be, of both. -/
import Derived.Test.YtajpggnmhkpbkaaRfw30
import Derived.Test.YtajpggnmhkpbkaaRfw36

set_option linter.unusedVariables false
set_option linter.unusedSimpArgs false
namespace Go.Proofs.Ytajpggnmhkpbkaa
open Go.RowKit

namespace Rep
def MayP (a b : Int) (l : List Pst) (m : Int) (x : List Int) : Prop := days a b = true ∧ FineP l ∧ (∀ z ∈ l, within a b z = true) ∧ Srt.Up keyP l ∧ Post.sums l = ⟨0, m, x⟩
theorem filter_all {a b : Int} {l : List Pst} (h : ∀ z ∈ l, within a b z = true) : l.filter (within a b) = l := List.filter_eq_self.2 h
theorem ris_up {s : List Pst} (hw : WF s) (h : RisP s) : Srt.Up keyP s := by
  have h1 : ∀ (d i : Nat) (x y : Pst), s[i]? = some x → s[i + d + 1]? = some y → keyP x < keyP y := by
    intro d
    induction d with
    | zero => exact fun i x y hx hy => (less_keyP (hw x (List.mem_of_getElem? hx)) (hw y (List.mem_of_getElem? hy))).1 (h.2 i x y hx hy)
    | succ d ih =>
      intro i x y hx hy
      obtain ⟨z, hz⟩ : ∃ z, s[i + d + 1]? = some z := ⟨_, List.getElem?_eq_getElem (by have := (List.getElem?_eq_some_iff.1 hy).1; omega)⟩
      have e1 := ih i x z hx hz
      have e2 := (less_keyP (hw z (List.mem_of_getElem? hz)) (hw y (List.mem_of_getElem? hy))).1 (h.2 (i + d + 1) z y hz hy)
      omega
  unfold Srt.Up
  rw [List.pairwise_iff_getElem]
  intro i j hi hj hij
  have := h1 (j - i - 1) i _ _ (List.getElem?_eq_getElem hi) (by rw [show i + (j - i - 1) + 1 = j from by omega]; exact List.getElem?_eq_getElem hj)
  omega
theorem mayP_ris {a b : Int} {l : List Pst} {m : Int} {x : List Int} (hw : WF l) : MayP a b l m x ↔ (∀ z ∈ l, within a b z = true) ∧ days a b = true ∧ RisP l ∧ Post.sums l = ⟨0, m, x⟩ := by
  constructor
  · rintro ⟨h1, h2, h3, h4, h5⟩
    exact ⟨h3, h1, (ris_fine hw h4).2 h2, h5⟩
  · rintro ⟨h3, h1, h2, h5⟩
    have h4 := ris_up hw h2
    exact ⟨h1, (ris_fine hw h4).1 h2, h3, h4, h5⟩
end Rep

theorem mayF_any (x : Pst) (a b : Int) (g : Nat) (w : World) (ha : w.cell? ⟨g, 0, none⟩ = some (.int .i64 a)) (hb : w.cell? ⟨g, 1, none⟩ = some (.int .i64 b)) :
    Calls Try.prog 66 #[.agg #[.int .i64 x.d, .int .u64 x.t, .int .i64 x.s, .int .i64 x.k, .int .i64 x.a0, .int .i64 x.a1, .int .i64 x.a2, .int .i64 x.a3, .int .i64 x.a4, .int .i64 x.a5], .pointer (some ⟨g, 0, none⟩)] w fun e w' => e = .returned (.bool (!Rep.within a b x)) ∧ Below w.heap.size w w' := by
  have hga := cell_blockW ha
  simp only at hga
  have H := Lib.hid (fun W => within_any x a b W)
  go_enter Try.func66, Try.ntmps66
  go_wp2_with fail
  refine (H.out _).mono ?_
  rintro e w1 ⟨rfl, hb1⟩
  go_wp2
  go_ret
  exact ⟨rfl, ((Below.refl w.heap.size w).alloc (Nat.le_refl _) _).trans (hb1.mono (by simp))⟩

set_option maxHeartbeats 1000000 in
theorem idxF_any (l : List Pst) (a b : Int) (g : Nat) (bv : Bool) (hbv : bv = true ↔ ∃ x ∈ l, Rep.within a b x = false) (p : Option Addr) (n cap : Nat) (w : World) (hs : PS w (.slice p n cap) l) (ha : w.cell? ⟨g, 0, none⟩ = some (.int .i64 a)) (hb : w.cell? ⟨g, 1, none⟩ = some (.int .i64 b)) :
    Calls Try.prog 84 #[.slice p n cap, .func (.func 66) #[] #[.pointer (some ⟨g, 0, none⟩)]] w
      fun e w' => (∃ j : Int, e = .returned (.int .i64 j) ∧ decide (0 ≤ j) = bv) ∧ Below w.heap.size w w' := by
  have HPS := Lib.hid hs; have HN := Lib.hid (ps_len hs).1
  have hn1 := (ps_len hs).2.1
  have hn2 := (ps_len hs).2.2
  have HA := Lib.hid ha; have HB := Lib.hid hb; have HBV := Lib.hid hbv
  have hga := cell_blockW ha
  simp only at hga
  clear hs ha hb hbv
  go_enter Try.func84, Try.ntmps84
  go_wp2
  go_loopw [8] (fun i wr => ∃ k : Nat, k ≤ n ∧ i = .int .i64 k ∧ (∀ (j : Nat) (x : Pst), j < k → l[j]? = some x → Rep.within a b x = true) ∧ Below w.heap.size w wr) (fun i _ => n - (intOf i).toNat)
  case atStart => exact ⟨0, Nat.zero_le _, rfl, fun j x h => absurd h (Nat.not_lt_zero _), Below.refl _ _⟩
  case round =>
    obtain ⟨k, hk, rfl, hall, hbw⟩ := hrel
    have HALL := Lib.hid hall; have HBW := Lib.hid hbw
    clear hall
    by_cases hlt : k < n
    · obtain ⟨x, hx⟩ : ∃ x, l[k]? = some x := ⟨_, List.getElem?_eq_getElem (by have := HN.out; omega)⟩
      obtain ⟨bb, o, rfl, hbl, hat⟩ := ps_at (HPS.out.below hbw) hx
      have HX := Lib.hid hx
      have HW : Hid (∀ W, W.cell? ⟨g, 0, none⟩ = some (.int .i64 a) → W.cell? ⟨g, 1, none⟩ = some (.int .i64 b) → Calls Try.prog 66 #[.agg #[.int .i64 x.d, .int .u64 x.t, .int .i64 x.s, .int .i64 x.k, .int .i64 x.a0, .int .i64 x.a1, .int .i64 x.a2, .int .i64 x.a3, .int .i64 x.a4, .int .i64 x.a5], .pointer (some ⟨g, 0, none⟩)] W fun e w' => e = .returned (.bool (!Rep.within a b x)) ∧ Below W.heap.size W w') := Lib.hid (fun W h1 h2 => mayF_any x a b g W h1 h2)
      unfold PAt at hat
      obtain ⟨c0, c1, c2, c3, c4, c5, c6, c7, c8, c9⟩ := hat
      clear hx hbw
      go_wp2_with fail
      refine (HW.out _ ((HBW.out.cell (p := ⟨g, 0, none⟩) hga).trans HA.out) ((HBW.out.cell (p := ⟨g, 1, none⟩) hga).trans HB.out)).mono ?_
      rintro e w1 ⟨rfl, hb1⟩
      have HBW1 := Lib.hid (HBW.out.trans (hb1.mono HBW.out.size))
      clear hb1 c0 c1 c2 c3 c4 c5 c6 c7 c8 c9
      obtain ⟨y, hy⟩ : ∃ y, Rep.within a b x = y := ⟨_, rfl⟩
      rw [hy]
      have HY := Lib.hid hy
      clear hy
      cases y
      · go_wp2
        go_ret
        refine ⟨⟨k, rfl, ?_⟩, HBW1.out⟩
        have := HBV.out.2 ⟨x, List.mem_of_getElem? HX.out, HY.out⟩
        rw [this]; simp
      · go_wp2
        go_roundw
        case rel =>
          refine ⟨k + 1, by omega, by go_num, fun j z hj hz => ?_, HBW1.out⟩
          rcases Nat.lt_or_ge j k with h | h
          · exact HALL.out j z h hz
          · obtain rfl : j = k := by omega
            have := HX.out.symm.trans hz
            injection this with this
            rw [← this]
            exact HY.out
        case measure => simp [intOf]; omega
    · obtain rfl : k = n := by omega
      clear hbw
      go_wp2
      go_ret
      refine ⟨⟨-1, rfl, ?_⟩, HBW.out⟩
      cases bv
      · rfl
      · obtain ⟨x, hx, h1⟩ := HBV.out.1 rfl
        obtain ⟨j, hj⟩ := List.getElem?_of_mem hx
        have := HALL.out j x (by have := (List.getElem?_eq_some_iff.1 hj).1; have := HN.out; omega) hj
        rw [h1] at this
        cases this

theorem hasF_any (l : List Pst) (a b : Int) (g : Nat) (bv : Bool) (hbv : bv = true ↔ ∃ x ∈ l, Rep.within a b x = false) (p : Option Addr) (n cap : Nat) (w : World) (hs : PS w (.slice p n cap) l) (ha : w.cell? ⟨g, 0, none⟩ = some (.int .i64 a)) (hb : w.cell? ⟨g, 1, none⟩ = some (.int .i64 b)) :
    Calls Try.prog 65 #[.slice p n cap, .func (.func 66) #[] #[.pointer (some ⟨g, 0, none⟩)]] w
      fun e w' => e = .returned (.bool bv) ∧ Below w.heap.size w w' := by
  have H := Lib.hid (idxF_any l a b g bv hbv p n cap w hs ha hb)
  clear hs ha hb hbv
  go_enter Try.func65, Try.ntmps65
  go_wp2_with fail
  refine H.out.mono ?_
  rintro e w1 ⟨⟨j, rfl, hj⟩, hb1⟩
  go_wp2
  go_ret
  exact ⟨rfl, hb1⟩

theorem rMay17_any (a b : Int) (l : List Pst) (p : Option Addr) (n cap : Nat) (hnb : n ≤ 1000000) (m x0 x1 x2 x3 x4 x5 : Int) (bv : Bool) (hbv : bv = true ↔ Rep.MayP a b l m [x0, x1, x2, x3, x4, x5]) (w : World) (hs : PS w (.slice p n cap) l) :
    Calls Try.prog 51 #[.agg #[.int .i64 a, .int .i64 b, (.slice p n cap), .int .i64 m, .int .i64 x0, .int .i64 x1, .int .i64 x2, .int .i64 x3, .int .i64 x4, .int .i64 x5]] w fun e w' => e = .returned (.bool bv) ∧ Below w.heap.size w w' := by
  have HPS := Lib.hid hs
  have hb0 := (Below.refl w.heap.size w).alloc (Nat.le_refl _) (.cells #[.int .i64 a, .int .i64 b, (.slice p n cap), .int .i64 m, .int .i64 x0, .int .i64 x1, .int .i64 x2, .int .i64 x3, .int .i64 x4, .int .i64 x5] 43 (0, 0))
  have hr0 := new_row w (.cells #[.int .i64 a, .int .i64 b, (.slice p n cap), .int .i64 m, .int .i64 x0, .int .i64 x1, .int .i64 x2, .int .i64 x3, .int .i64 x4, .int .i64 x5] 43 (0, 0)) _ rfl
  have hc0 := fun j => cell_of_row _ w.heap.size j _ _ _ hr0
  have HB0 := Lib.hid hb0
  have HR0 := Lib.hid hr0
  by_cases hd : Rep.days a b = true ∧ Rep.FineP l
  · obtain ⟨s, hsd⟩ : ∃ s, s = Srt.isort keyP l := ⟨_, rfl⟩
    have hm := Srt.isort_mix keyP l
    have hu := Srt.isort_up keyP l
    rw [← hsd] at hm hu
    have hmf := Rep.Mix.filter hm (Rep.within a b)
    have huf := Rep.Up.filter hu (Rep.within a b)
    have HSUM := Post.sums_fine (s.filter (Rep.within a b))
    obtain ⟨y0, y1, y2, y3, y4, y5, hx⟩ := Post.six_of HSUM.1
    obtain ⟨m', hmm⟩ : ∃ m', (Post.sums (s.filter (Rep.within a b))).m = m' := ⟨_, rfl⟩
    obtain ⟨ev, hev⟩ : ∃ m', (Post.sums (s.filter (Rep.within a b))).e = m' := ⟨_, rfl⟩
    have HSM : Post.sums (s.filter (Rep.within a b)) = ⟨ev, m', [y0, y1, y2, y3, y4, y5]⟩ := by rw [← hx, ← hmm, ← hev]
    have HB := Lib.hid (fun W h => rMakeR_fit a b l p n cap hnb hd.1 hd.2 _ hmf huf ev m' y0 y1 y2 y3 y4 y5 HSM W h)
    have HQ : Hid (bv = true ↔ ev = 0 ∧ (m' = m ∧ y0 = x0 ∧ y1 = x1 ∧ y2 = x2 ∧ y3 = x3 ∧ y4 = x4 ∧ y5 = x5) ∧ s.filter (Rep.within a b) = l) := Lib.hid (by
      rw [hbv]
      constructor
      · rintro ⟨h1, h2, h3, h4, h5⟩
        have e : s.filter (Rep.within a b) = l := by
          have e1 : Srt.Mix keyP (l.filter (Rep.within a b)) l := by rw [Rep.filter_all h3]; exact Srt.Mix.refl _
          exact huf.only _ _ h4 (hmf.symm.trans e1)
        rw [e, h5] at HSM
        injection HSM with e1 e2 e3
        simp only [List.cons.injEq, and_true] at e3
        exact ⟨e1.symm, ⟨e2.symm, e3.1.symm, e3.2.1.symm, e3.2.2.1.symm, e3.2.2.2.1.symm, e3.2.2.2.2.1.symm, e3.2.2.2.2.2.symm⟩, e⟩
      · rintro ⟨rfl, ⟨rfl, rfl, rfl, rfl, rfl, rfl, rfl⟩, e⟩
        refine ⟨hd.1, hd.2, ?_, e ▸ huf, by rw [← e]; exact HSM⟩
        intro z hz
        rw [← e] at hz
        exact (List.mem_filter.1 hz).2)
    clear hx hmm hev hsd hmf huf HSM HSUM hbv hd hs hb0
    generalize s.filter (Rep.within a b) = rows at *
    go_enter Try.func51, Try.ntmps51
    go_wp2_with fail
    refine (HB.out _ (HPS.out.below HB0.out)).mono ?_
    rintro e w1 ⟨v1, hmine, hb1, hcase⟩
    have hls := hmine.ls Pst.cells_length (by decide)
    obtain ⟨p1, c1, hv⟩ := hls.shape
    subst hv
    have hr1 := (hb1.block w.heap.size (by simp)).trans HR0.out
    have HB1 := Lib.hid (HB0.out.trans (hb1.mono HB0.out.size))
    have HLS := Lib.hid hls
    have HR1 := Lib.hid hr1
    clear hc0 hr0
    rcases hcase with ⟨he, rfl⟩ | ⟨he, rfl⟩
    · have hb2 := balloc HB1.out (.cells #[.int .i64 a, .int .i64 b, (.slice p1 rows.length c1), .int .i64 m', .int .i64 y0, .int .i64 y1, .int .i64 y2, .int .i64 y3, .int .i64 y4, .int .i64 y5] 43 (0, 0))
      have hrA := row_alloc hr1 (.cells #[.int .i64 a, .int .i64 b, (.slice p1 rows.length c1), .int .i64 m', .int .i64 y0, .int .i64 y1, .int .i64 y2, .int .i64 y3, .int .i64 y4, .int .i64 y5] 43 (0, 0))
      have hrB := new_row w1 (.cells #[.int .i64 a, .int .i64 b, (.slice p1 rows.length c1), .int .i64 m', .int .i64 y0, .int .i64 y1, .int .i64 y2, .int .i64 y3, .int .i64 y4, .int .i64 y5] 43 (0, 0)) _ rfl
      have HB2 := Lib.hid hb2
      have HSA := Lib.hid (HLS.out.alloc (.cells #[.int .i64 a, .int .i64 b, (.slice p1 rows.length c1), .int .i64 m', .int .i64 y0, .int .i64 y1, .int .i64 y2, .int .i64 y3, .int .i64 y4, .int .i64 y5] 43 (0, 0)))
      have HSB := Lib.hid ((ls_of_ps (HPS.out.below HB1.out)).1.alloc (.cells #[.int .i64 a, .int .i64 b, (.slice p1 rows.length c1), .int .i64 m', .int .i64 y0, .int .i64 y1, .int .i64 y2, .int .i64 y3, .int .i64 y4, .int .i64 y5] 43 (0, 0)))
      have hcA := fun j => cell_of_row _ w.heap.size j _ _ _ hrA
      have hcB := fun j => cell_of_row _ w1.heap.size j _ _ _ hrB
      clear hmine hls hr1 hb1 hb2 hrA hrB
      go_wp2_with fail
      refine (rSameR_any a b a b m' y0 y1 y2 y3 y4 y5 m x0 x1 x2 x3 x4 x5 rows l p1 p rows.length n c1 cap bv (by rw [HQ.out]; simp [he]) _ HSA.out HSB.out).mono ?_
      rintro e w2 ⟨rfl, hb2⟩
      have HB3 := Lib.hid (HB2.out.trans (hb2.mono HB2.out.size))
      clear hb2
      go_wp2
      go_ret
      exact ⟨rfl, HB3.out⟩
    · obtain rfl : bv = false := by cases bv; rfl; exact absurd (HQ.out.1 rfl).1 he
      have hc1 := fun j => cell_of_row w1 w.heap.size j _ _ _ hr1
      have hb2 := balloc HB1.out (.cells #[.int .i64 0, .int .i64 0, .slice none 0 0, .int .i64 0, .int .i64 0, .int .i64 0, .int .i64 0, .int .i64 0, .int .i64 0, .int .i64 0] 43 (0, 0))
      clear hmine hls hr1 hb1
      go_wp2
      go_ret
      exact ⟨rfl, hb2⟩
  · obtain rfl : bv = false := by cases bv; rfl; exact absurd ⟨(hbv.1 rfl).1, (hbv.1 rfl).2.1⟩ hd
    have HB := Lib.hid (fun W h => rMakeR_bad a b l p n cap hd W h)
    clear hbv hd hs hb0 hr0
    go_enter Try.func51, Try.ntmps51
    go_wp2_with fail
    refine (HB.out _ (HPS.out.below HB0.out)).mono ?_
    rintro e w1 ⟨rfl, hb1⟩
    have HB1 := Lib.hid (HB0.out.trans (hb1.mono HB0.out.size))
    have hb2 := balloc HB1.out (.cells #[.int .i64 0, .int .i64 0, .slice none 0 0, .int .i64 0, .int .i64 0, .int .i64 0, .int .i64 0, .int .i64 0, .int .i64 0, .int .i64 0] 43 (0, 0))
    clear hb1
    go_wp2
    go_ret
    exact ⟨rfl, hb2⟩
set_option maxRecDepth 4000 in
set_option maxHeartbeats 1000000 in
theorem pMay_any (a b : Int) (l : List Pst) (p : Option Addr) (n cap : Nat) (m x0 x1 x2 x3 x4 x5 : Int) (bv : Bool) (hbv : bv = true ↔ Rep.MayP a b l m [x0, x1, x2, x3, x4, x5]) (w : World) (hs : PS w (.slice p n cap) l) :
    Calls Try.prog 43 #[.agg #[.int .i64 a, .int .i64 b, (.slice p n cap), .int .i64 m, .int .i64 x0, .int .i64 x1, .int .i64 x2, .int .i64 x3, .int .i64 x4, .int .i64 x5]] w fun e w' => e = .returned (.bool bv) ∧ Below w.heap.size w w' := by
  have HPS := Lib.hid hs
  have hwf := ps_wf hs
  have hb0 := (Below.refl w.heap.size w).alloc (Nat.le_refl _) (.cells #[.int .i64 a, .int .i64 b, (.slice p n cap), .int .i64 m, .int .i64 x0, .int .i64 x1, .int .i64 x2, .int .i64 x3, .int .i64 x4, .int .i64 x5] 43 (0, 0))
  have hr0 := new_row w (.cells #[.int .i64 a, .int .i64 b, (.slice p n cap), .int .i64 m, .int .i64 x0, .int .i64 x1, .int .i64 x2, .int .i64 x3, .int .i64 x4, .int .i64 x5] 43 (0, 0)) _ rfl
  have hc0 := fun j => cell_of_row _ w.heap.size j _ _ _ hr0
  have HB0 := Lib.hid hb0
  have HR0 := Lib.hid hr0
  obtain ⟨o, ho⟩ : ∃ o, (l.any fun z => !Rep.within a b z) = o := ⟨_, rfl⟩
  obtain ⟨d, hd⟩ : ∃ d, Rep.days a b = d := ⟨_, rfl⟩
  obtain ⟨r, hr⟩ : ∃ r : Bool, r = true ↔ Rep.RisP l := ⟨by classical exact decide (Rep.RisP l), by simp⟩
  have hso := Post.sums_fine l
  obtain ⟨y0, y1, y2, y3, y4, y5, hx⟩ := Post.six_of hso.1
  obtain ⟨m', hmm⟩ : ∃ m', (Post.sums l).m = m' := ⟨_, rfl⟩
  obtain ⟨ev, hev⟩ : ∃ m', (Post.sums l).e = m' := ⟨_, rfl⟩
  have hsm : Post.sums l = ⟨ev, m', [y0, y1, y2, y3, y4, y5]⟩ := by rw [← hx, ← hmm, ← hev]
  have ho' : o = true ↔ ∃ x ∈ l, Rep.within a b x = false := by rw [← ho]; simp
  have HQ : Hid (bv = true ↔ o = false ∧ d = true ∧ r = true ∧ ev = 0 ∧ (m' = m ∧ y0 = x0 ∧ y1 = x1 ∧ y2 = x2 ∧ y3 = x3 ∧ y4 = x4 ∧ y5 = x5)) := Lib.hid (by
    rw [hbv, Rep.mayP_ris hwf, hd, hr, hsm]
    have h1 : o = false ↔ ∀ z ∈ l, Rep.within a b z = true := by rw [← ho]; simp
    rw [h1]
    constructor
    · rintro ⟨g1, g2, g3, g4⟩
      injection g4 with e1 e2 e3
      simp only [List.cons.injEq, and_true] at e3
      exact ⟨g1, g2, g3, e1, e2, e3⟩
    · rintro ⟨g1, g2, g3, rfl, rfl, rfl, rfl, rfl, rfl, rfl, rfl⟩
      exact ⟨g1, g2, g3, rfl⟩)
  have HHAS := Lib.hid (fun W h h1 h2 => hasF_any l a b w.heap.size o ho' p n cap W h h1 h2)
  have HD : Hid (∀ W, Calls Try.prog 37 #[.int .i64 a, .int .i64 b] W fun e w' => e = .returned (.bool d) ∧ W = w') := Lib.hid (fun W => by have := pDays_any a b W; rwa [hd] at this)
  have HRS := Lib.hid (fun W h => rising_any l r hr p n cap W h)
  have HMB := Lib.hid (fun W h => made_bad a b l p n cap W h ev m' y0 y1 y2 y3 y4 y5 hsm)
  have HMO := Lib.hid (fun W h (he : ev = 0) => made_ok a b l p n cap W h m' y0 y1 y2 y3 y4 y5 (he ▸ hsm))
  clear hx hmm hev hso hsm hbv hd hs hb0 ho ho' hr
  go_enter Try.func43, Try.ntmps43
  go_wp2_with fail
  refine (HHAS.out _ (HPS.out.below HB0.out) (hc0 0) (hc0 1)).mono ?_
  rintro e w1 ⟨rfl, hb1⟩
  have hr1 := (hb1.block w.heap.size (block_lt HR0.out)).trans HR0.out
  have hc1 := fun j => cell_of_row _ w.heap.size j _ _ _ hr1
  have HB1 := Lib.hid (HB0.out.trans (hb1.mono HB0.out.size))
  have HR1 := Lib.hid hr1
  clear hb1 hr1 hr0 hc0
  cases o
  · go_wp2_with fail
    refine (HD.out _).mono ?_
    rintro e w2 ⟨rfl, rfl⟩
    cases d
    · obtain rfl : bv = false := by cases bv; rfl; exact absurd (HQ.out.1 rfl).2.1 (by simp)
      go_wp2
      go_ret
      exact ⟨rfl, HB1.out⟩
    · go_wp2_with fail
      refine (HRS.out _ (HPS.out.below HB1.out)).mono ?_
      rintro e w2 ⟨rfl, hb2⟩
      have hr2 := (hb2.block w.heap.size (block_lt HR1.out)).trans HR1.out
      have hc2 := fun j => cell_of_row _ w.heap.size j _ _ _ hr2
      have HB2 := Lib.hid (HB1.out.trans (hb2.mono HB1.out.size))
      have HR2 := Lib.hid hr2
      clear hb2 hr2 hc1
      cases r
      · obtain rfl : bv = false := by cases bv; rfl; exact absurd (HQ.out.1 rfl).2.2.1 (by simp)
        go_wp2
        go_ret
        exact ⟨rfl, HB2.out⟩
      · by_cases he : ev = 0
        · go_wp2_with fail
          refine (HMO.out _ (HPS.out.below HB2.out) he).mono ?_
          rintro e w3 ⟨rfl, hb3⟩
          have hr3 := (hb3.block w.heap.size (block_lt HR2.out)).trans HR2.out
          have HB3 := Lib.hid (HB2.out.trans (hb3.mono HB2.out.size))
          have hb4 := balloc HB3.out (.cells #[.int .i64 a, .int .i64 b, (.slice p n cap), .int .i64 m', .int .i64 y0, .int .i64 y1, .int .i64 y2, .int .i64 y3, .int .i64 y4, .int .i64 y5] 43 (0, 0))
          have HB4 := Lib.hid hb4
          have hrA := row_alloc hr3 (.cells #[.int .i64 a, .int .i64 b, (.slice p n cap), .int .i64 m', .int .i64 y0, .int .i64 y1, .int .i64 y2, .int .i64 y3, .int .i64 y4, .int .i64 y5] 43 (0, 0))
          have hrB := new_row w3 (.cells #[.int .i64 a, .int .i64 b, (.slice p n cap), .int .i64 m', .int .i64 y0, .int .i64 y1, .int .i64 y2, .int .i64 y3, .int .i64 y4, .int .i64 y5] 43 (0, 0)) _ rfl
          have hcA := fun j => cell_of_row _ w.heap.size j _ _ _ hrA
          have hcB := fun j => cell_of_row _ w3.heap.size j _ _ _ hrB
          clear hb3 hr3 hb4 hrA hrB hc2
          obtain ⟨q, hq⟩ : ∃ q, Rep.sameT m' y0 y1 y2 y3 y4 y5 m x0 x1 x2 x3 x4 x5 = q := ⟨_, rfl⟩
          have hE1 : ∀ W, (Op.equalIn 10000 41 (.agg #[.int .i64 m', .int .i64 y0, .int .i64 y1, .int .i64 y2, .int .i64 y3, .int .i64 y4, .int .i64 y5]) (.agg #[.int .i64 m, .int .i64 x0, .int .i64 x1, .int .i64 x2, .int .i64 x3, .int .i64 x4, .int .i64 x5])).run Try.prog W = .ok q W := fun W => by rw [← hq]; exact eqInTG m' y0 y1 y2 y3 y4 y5 m x0 x1 x2 x3 x4 x5 W
          have hE2 : ∀ W, (binOp .eql 41 (.agg #[.int .i64 m', .int .i64 y0, .int .i64 y1, .int .i64 y2, .int .i64 y3, .int .i64 y4, .int .i64 y5]) (.agg #[.int .i64 m, .int .i64 x0, .int .i64 x1, .int .i64 x2, .int .i64 x3, .int .i64 x4, .int .i64 x5])).run Try.prog W = .ok (.bool q) W := fun W => by rw [← hq]; exact eqTG m' y0 y1 y2 y3 y4 y5 m x0 x1 x2 x3 x4 x5 W
          have hG := guardTe
          have hbq : bv = q := by
            rw [Bool.eq_iff_iff, HQ.out, ← hq, Rep.sameT_iff]
            simp [he]
          subst hbq
          clear hq
          cases bv <;> (go_wp2; go_ret; exact ⟨rfl, HB4.out⟩)
        · obtain rfl : bv = false := by cases bv; rfl; exact absurd (HQ.out.1 rfl).2.2.2.1 he
          go_wp2_with fail
          refine (HMB.out _ (HPS.out.below HB2.out) he).mono ?_
          rintro e w3 ⟨rfl, hb3⟩
          have HB3 := Lib.hid (HB2.out.trans (hb3.mono HB2.out.size))
          have hb4 := balloc HB3.out (.cells #[.int .i64 0, .int .i64 0, .slice none 0 0, .int .i64 0, .int .i64 0, .int .i64 0, .int .i64 0, .int .i64 0, .int .i64 0, .int .i64 0] 43 (0, 0))
          clear hb3
          go_wp2
          go_ret
          exact ⟨rfl, hb4⟩
  · obtain rfl : bv = false := by cases bv; rfl; exact absurd (HQ.out.1 rfl).1 (by simp)
    go_wp2
    go_ret
    exact ⟨rfl, HB1.out⟩
end Go.Proofs.Ytajpggnmhkpbkaa
