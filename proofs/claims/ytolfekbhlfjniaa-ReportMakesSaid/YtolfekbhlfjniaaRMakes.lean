/- ReportMakes returns true for all days and every slice of postings, and leaves the memory that was there as it was. -/
import Derived.Test.YtolfekbhlfjniaaRepK
import Derived.Test.YtolfekbhlfjniaaLift
set_option linter.unusedVariables false
set_option linter.unusedSimpArgs false
namespace Go.Proofs.Ytolfekbhlfjniaa.reportMakes
open Go.ChangeShapes Go.WideShapes Go.ChangeAt Go.RowKit
attribute [local go_sem ↓] post_execLoad post_execStore
attribute [local go_sem] post_load post_store loL_drew okL_drew there_sc World.there_drew

theorem ls_keep {w1 w7 W : World} {v : Value} {l : List Pst} (h : LS Pst.cells 10 w1 v l) (h7 : LS Pst.cells 10 w7 v l) (hs : w7.heap.size ≤ W.heap.size) (hk : ∀ k, k < w1.heap.size → W.heap[k]? = w7.heap[k]?) : LS Pst.cells 10 W v l := by
  by_cases hl : l = []
  · subst hl
    obtain ⟨p, cap, rfl, h1, h2, _⟩ := h7
    exact ⟨p, cap, rfl, h1, h2, fun h => absurd rfl h⟩
  · refine h7.keep hs fun b hb _ => hk b ?_
    obtain ⟨p, cap, rfl, _, _, h3⟩ := h
    obtain ⟨b', o, rfl, hlt, _⟩ := h3 hl
    injection hb with hb
    rw [← hb]
    exact hlt
theorem one_int (k : IntKind) (n : Int) : (Value.int k n).oneCell' = true := rfl
attribute [local go_sem] one_int
def zeroP : Pst := ⟨0, 0, 0, 0, 0, 0, 0, 0, 0, 0⟩
def cnt (rows : List Pst) (x : Pst) (j : Nat) : Nat := ((rows.take j).filter (fun y => Rep.sameP y x)).length
theorem cnt_le (rows : List Pst) (x : Pst) (j : Nat) : cnt rows x j ≤ j := Nat.le_trans (List.length_filter_le _ _) (by rw [List.length_take]; omega)
theorem cnt_succ {rows : List Pst} {x y : Pst} {j : Nat} (h : rows[j]? = some y) : cnt rows x (j + 1) = cnt rows x j + (if Rep.sameP y x = true then 1 else 0) := by
  unfold cnt
  rw [List.take_add_one, h, List.filter_append, List.length_append]
  congr 1
  show (List.filter (fun y => Rep.sameP y x) [y]).length = _
  rw [List.filter_cons]
  split <;> simp_all

/-- both refuse -/
theorem walk_bad (from0 to0 : Int) (l : List Pst) (p : Option Addr) (n cap : Nat) (hn : n = l.length) (h60 : ¬ 60 < n) (c : Int) (hc : ¬ c = 0)
    (hm : ∀ W, PS W (.slice p n cap) l → Calls Try.prog 9 #[.int .i64 from0, .int .i64 to0, .slice p n cap] W fun e w' => e = .returned (.tuple #[.agg #[.int .i64 0, .int .i64 0, .slice none 0 0, .int .i64 0, .int .i64 0, .int .i64 0, .int .i64 0, .int .i64 0, .int .i64 0, .int .i64 0], .int .i64 c]) ∧ Below W.heap.size W w')
    (hr : ∀ W, PS W (.slice p n cap) l → Calls Try.prog 10 #[.int .i64 from0, .int .i64 to0, .slice p n cap] W fun e w' => e = .returned (.tuple #[.agg #[.int .i64 0, .int .i64 0, .slice none 0 0, .int .i64 0, .int .i64 0, .int .i64 0, .int .i64 0, .int .i64 0, .int .i64 0, .int .i64 0], .int .i64 c]) ∧ Below W.heap.size W w')
    (w : World) (hs : PS w (.slice p n cap) l) :
    Calls Try.prog 3 #[.int .i64 from0, .int .i64 to0, .slice p n cap] w fun e w' => e = .returned (.bool true) ∧ Below w.heap.size w w' := by
  obtain ⟨hls, hwf⟩ := ls_of_ps hs
  have HPS := Lib.hid hs
  have HS := Lib.hid hls; have HN := Lib.hid hn; have HM := Lib.hid hm; have HR := Lib.hid hr
  have hcap : n ≤ cap ∧ cap ≤ 9223372036854775807 := by have h1 := hls.length; simp only [maxLen] at h1; exact ⟨h1.2.1, h1.2.2⟩
  have hn1 := hcap.1
  have hn2 := hcap.2
  clear hs hls hwf hcap hn hm hr
  go_enter Try.func3, Try.ntmps3
  go_wp2_with (at_builtin; refine wpList_append_recs elemP rfl _ _ rfl w.heap.size _ 0 [] rfl (World.ownsRow_nil _ _ _ _) _ l rfl HS.out (by have := HN.out; omega) (Nat.le_refl _) ?_; intro v1 w1 hown1 hg1 hn1 hat1)
  have HB1 : Hid (Below w.heap.size w w1) := Lib.hid ((Below.refl w.heap.size w).grown hg1 (Nat.le_refl _) (fun b hb => by cases hb))
  have hls1 : LS Pst.cells 10 w1 v1 l := LS.of_own hown1 Pst.cells_length (by decide)
  obtain ⟨p1, c1, hv1⟩ := hls1.shape
  rw [← HN.out] at hv1
  subst hv1
  have HO1 := Lib.hid hls1
  clear hown1 hg1 hn1 hat1 hls1
  go_wp2_with fail
  refine (HM.out _ (HPS.out.below HB1.out)).mono ?_
  rintro e w2 ⟨rfl, hb2⟩
  have hb3 := hb2.alloc hb2.size (.cells #[.int .i64 0, .int .i64 0, .slice none 0 0, .int .i64 0, .int .i64 0, .int .i64 0, .int .i64 0, .int .i64 0, .int .i64 0, .int .i64 0] 27 (0, 0))
  have hrow := new_row w2 (.cells #[.int .i64 0, .int .i64 0, .slice none 0 0, .int .i64 0, .int .i64 0, .int .i64 0, .int .i64 0, .int .i64 0, .int .i64 0, .int .i64 0] 27 (0, 0)) _ rfl
  have HB2 := Lib.hid hb3
  have HR2 := Lib.hid hrow
  clear hb2 hb3 hrow
  go_wp2_with fail
  refine (HR.out _ (HPS.out.below (HB1.out.trans (HB2.out.mono HB1.out.size)))).mono ?_
  rintro e w3 ⟨rfl, hb3⟩
  have hrow := row_alloc ((hb3.block w2.heap.size (by simp)).trans HR2.out) (.cells #[.int .i64 0, .int .i64 0, .slice none 0 0, .int .i64 0, .int .i64 0, .int .i64 0, .int .i64 0, .int .i64 0, .int .i64 0, .int .i64 0] 27 (0, 0))
  have hrow' := new_row w3 (.cells #[.int .i64 0, .int .i64 0, .slice none 0 0, .int .i64 0, .int .i64 0, .int .i64 0, .int .i64 0, .int .i64 0, .int .i64 0, .int .i64 0] 27 (0, 0)) _ rfl
  have HB3 := Lib.hid (HB2.out.trans ((hb3.alloc hb3.size (.cells #[.int .i64 0, .int .i64 0, .slice none 0 0, .int .i64 0, .int .i64 0, .int .i64 0, .int .i64 0, .int .i64 0, .int .i64 0, .int .i64 0] 27 (0, 0))).mono HB2.out.size))
  have hx := fun j => cell_of_row (w3.alloc (.cells #[.int .i64 0, .int .i64 0, .slice none 0 0, .int .i64 0, .int .i64 0, .int .i64 0, .int .i64 0, .int .i64 0, .int .i64 0, .int .i64 0] 27 (0, 0))) w2.heap.size j _ _ _ hrow
  have hy := fun j => cell_of_row (w3.alloc (.cells #[.int .i64 0, .int .i64 0, .slice none 0 0, .int .i64 0, .int .i64 0, .int .i64 0, .int .i64 0, .int .i64 0, .int .i64 0, .int .i64 0] 27 (0, 0))) w3.heap.size j _ _ _ hrow'
  clear hb3 hrow hrow'
  go_wp2_with fail
  refine (rSameR_any 0 0 0 0 0 0 0 0 0 0 0 0 0 0 0 0 0 0 [] [] none none 0 0 0 0 true (by simp) _ (LS.nil _) (LS.nil _)).mono ?_
  rintro e w4 ⟨rfl, hb4⟩
  have HB4 := Lib.hid (HB3.out.trans (hb4.mono HB3.out.size))
  clear hb4
  go_wp2_with fail
  refine (rSameL_any l l true (by simp) p1 p n n c1 cap _ (HO1.out.below HB4.out) (HS.out.below (HB1.out.trans (HB4.out.mono HB1.out.size)))).mono ?_
  rintro e w5 ⟨rfl, hb5⟩
  have HB5 := Lib.hid (HB4.out.trans (hb5.mono HB4.out.size))
  clear hb5
  go_wp2_with fail
  refine (known17_any _).mono ?_
  rintro e w6 ⟨rfl, hb6⟩
  go_wp2
  go_ret
  exact ⟨rfl, HB1.out.trans ((HB5.out.trans (hb6.mono HB5.out.size)).mono HB1.out.size)⟩

set_option maxRecDepth 4000 in
set_option maxHeartbeats 2000000 in
theorem walk_ok (from0 to0 : Int) (l : List Pst) (p : Option Addr) (n cap : Nat) (hn : n = l.length) (h60 : ¬ 60 < n) (hfine : Rep.FineP l) (s : List Pst) (hsm : Srt.Mix keyP l s) (m x0 x1 x2 x3 x4 x5 : Int)
    (hm : ∀ W, PS W (.slice p n cap) l → Calls Try.prog 9 #[.int .i64 from0, .int .i64 to0, .slice p n cap] W fun e w' => ∃ v, Mine Pst.cells 10 w' W.heap.size v (s.filter (Rep.within from0 to0)) ∧ Below W.heap.size W w' ∧ e = .returned (.tuple #[.agg #[.int .i64 from0, .int .i64 to0, v, .int .i64 m, .int .i64 x0, .int .i64 x1, .int .i64 x2, .int .i64 x3, .int .i64 x4, .int .i64 x5], .int .i64 0]))
    (hr : ∀ W, PS W (.slice p n cap) l → Calls Try.prog 10 #[.int .i64 from0, .int .i64 to0, .slice p n cap] W fun e w' => ∃ v, Mine Pst.cells 10 w' W.heap.size v (s.filter (Rep.within from0 to0)) ∧ Below W.heap.size W w' ∧ e = .returned (.tuple #[.agg #[.int .i64 from0, .int .i64 to0, v, .int .i64 m, .int .i64 x0, .int .i64 x1, .int .i64 x2, .int .i64 x3, .int .i64 x4, .int .i64 x5], .int .i64 0]))
    (w : World) (hs : PS w (.slice p n cap) l) :
    Calls Try.prog 3 #[.int .i64 from0, .int .i64 to0, .slice p n cap] w fun e w' => e = .returned (.bool true) ∧ Below w.heap.size w w' := by
  obtain ⟨hls, hwf⟩ := ls_of_ps hs
  have HPS := Lib.hid hs
  have HS := Lib.hid hls; have HN := Lib.hid hn; have HM := Lib.hid hm; have HR := Lib.hid hr
  have hcap : n ≤ cap ∧ cap ≤ 9223372036854775807 := by have h1 := hls.length; simp only [maxLen] at h1; exact ⟨h1.2.1, h1.2.2⟩
  have hn1 := hcap.1
  have hn2 := hcap.2
  have HCNT : Hid (∀ (k : Nat) (x : Pst), l[k]? = some x → cnt (s.filter (Rep.within from0 to0)) x (s.filter (Rep.within from0 to0)).length = if Rep.within from0 to0 x then 1 else 0) := Lib.hid (fun k x hx => by
    unfold cnt
    rw [List.take_of_length_le (Nat.le_refl _)]
    exact Rep.count_rows (List.mem_of_getElem? hx) hsm hfine from0 to0)
  have HWI : Hid (∀ x : Pst, Rep.within from0 to0 x = (decide (from0 ≤ x.d) && decide (x.d ≤ to0))) := Lib.hid (fun x => rfl)
  have HNR : Hid ((s.filter (Rep.within from0 to0)).length ≤ n) := Lib.hid (Nat.le_trans (List.length_filter_le _ _) (by rw [← hsm.1]; omega))
  generalize s.filter (Rep.within from0 to0) = rows at *
  obtain ⟨r, hr0⟩ : ∃ r, rows.length = r := ⟨_, rfl⟩
  rw [hr0] at HNR HCNT
  have HRL := Lib.hid hr0
  clear hs hls hwf hcap hn hm hr hr0 hfine hsm
  go_enter Try.func3, Try.ntmps3
  go_wp2_with (at_builtin; refine wpList_append_recs elemP rfl _ _ rfl w.heap.size _ 0 [] rfl (World.ownsRow_nil _ _ _ _) _ l rfl HS.out (by have := HN.out; omega) (Nat.le_refl _) ?_; intro v1 w1 hown1 hg1 hn1 hat1)
  have HB1 : Hid (Below w.heap.size w w1) := Lib.hid ((Below.refl w.heap.size w).grown hg1 (Nat.le_refl _) (fun b hb => by cases hb))
  have hls1 : LS Pst.cells 10 w1 v1 l := LS.of_own hown1 Pst.cells_length (by decide)
  obtain ⟨p1, c1, hv1⟩ := hls1.shape
  rw [← HN.out] at hv1
  subst hv1
  have HO1 := Lib.hid hls1
  clear hown1 hg1 hn1 hat1 hls1
  go_wp2_with fail
  refine (HM.out _ (HPS.out.below HB1.out)).mono ?_
  rintro e w2 ⟨v2, hmine, hb2, rfl⟩
  have hlm := hmine.ls Pst.cells_length (by decide)
  obtain ⟨p2, c2, hv2⟩ := hlm.shape
  rw [HRL.out] at hv2
  subst hv2
  have hb3 := hb2.alloc hb2.size (.cells #[.int .i64 from0, .int .i64 to0, (.slice p2 r c2), .int .i64 m, .int .i64 x0, .int .i64 x1, .int .i64 x2, .int .i64 x3, .int .i64 x4, .int .i64 x5] 27 (0, 0))
  have hrow := new_row w2 (.cells #[.int .i64 from0, .int .i64 to0, (.slice p2 r c2), .int .i64 m, .int .i64 x0, .int .i64 x1, .int .i64 x2, .int .i64 x3, .int .i64 x4, .int .i64 x5] 27 (0, 0)) _ rfl
  have HB2 := Lib.hid hb3
  have HR2 := Lib.hid hrow
  have HMI2 := Lib.hid (hmine.below ((Below.refl w2.heap.size w2).alloc (Nat.le_refl _) (.cells #[.int .i64 from0, .int .i64 to0, (.slice p2 r c2), .int .i64 m, .int .i64 x0, .int .i64 x1, .int .i64 x2, .int .i64 x3, .int .i64 x4, .int .i64 x5] 27 (0, 0))))
  have HMG := Lib.hid hmine
  clear hb2 hb3 hrow hmine hlm
  go_wp2_with fail
  refine (HR.out _ (HPS.out.below (HB1.out.trans (HB2.out.mono HB1.out.size)))).mono ?_
  rintro e w3 ⟨v3, hmine, hb3, rfl⟩
  have hlm := hmine.ls Pst.cells_length (by decide)
  obtain ⟨p3, c3, hv3⟩ := hlm.shape
  rw [HRL.out] at hv3
  subst hv3
  have hb4 := hb3.alloc hb3.size (.cells #[.int .i64 from0, .int .i64 to0, (.slice p3 r c3), .int .i64 m, .int .i64 x0, .int .i64 x1, .int .i64 x2, .int .i64 x3, .int .i64 x4, .int .i64 x5] 27 (0, 0))
  have HMI3 := Lib.hid (HMI2.out.below hb4)
  have HLS3 := Lib.hid (hlm.alloc (.cells #[.int .i64 from0, .int .i64 to0, (.slice p3 r c3), .int .i64 m, .int .i64 x0, .int .i64 x1, .int .i64 x2, .int .i64 x3, .int .i64 x4, .int .i64 x5] 27 (0, 0)))
  have HB3 := Lib.hid (HB2.out.trans (hb4.mono HB2.out.size))
  have hrow := row_alloc ((hb3.block w2.heap.size (by simp)).trans HR2.out) (.cells #[.int .i64 from0, .int .i64 to0, (.slice p3 r c3), .int .i64 m, .int .i64 x0, .int .i64 x1, .int .i64 x2, .int .i64 x3, .int .i64 x4, .int .i64 x5] 27 (0, 0))
  have hrow' := new_row w3 (.cells #[.int .i64 from0, .int .i64 to0, (.slice p3 r c3), .int .i64 m, .int .i64 x0, .int .i64 x1, .int .i64 x2, .int .i64 x3, .int .i64 x4, .int .i64 x5] 27 (0, 0)) _ rfl
  have HR3 := Lib.hid hrow
  have hx := fun j => cell_of_row (w3.alloc (.cells #[.int .i64 from0, .int .i64 to0, (.slice p3 r c3), .int .i64 m, .int .i64 x0, .int .i64 x1, .int .i64 x2, .int .i64 x3, .int .i64 x4, .int .i64 x5] 27 (0, 0))) w2.heap.size j _ _ _ hrow
  have hy := fun j => cell_of_row (w3.alloc (.cells #[.int .i64 from0, .int .i64 to0, (.slice p3 r c3), .int .i64 m, .int .i64 x0, .int .i64 x1, .int .i64 x2, .int .i64 x3, .int .i64 x4, .int .i64 x5] 27 (0, 0))) w3.heap.size j _ _ _ hrow'
  clear hb3 hb4 hrow hrow' hmine hlm
  go_wp2_with fail
  refine (rSameR_any from0 to0 from0 to0 m x0 x1 x2 x3 x4 x5 m x0 x1 x2 x3 x4 x5 rows rows p2 p3 r r c2 c3 true (by simp) _ (HMI3.out.ls Pst.cells_length (by decide)) HLS3.out).mono ?_
  rintro e w4 ⟨rfl, hb4⟩
  have HB4 := Lib.hid (HB3.out.trans (hb4.mono HB3.out.size))
  have HMI4 := Lib.hid (HMI3.out.below hb4)
  have hrow := (hb4.block w2.heap.size (block_lt HR3.out)).trans HR3.out
  have HR4 := Lib.hid hrow
  clear hb4 hx hy hrow
  go_wp2_with fail
  refine (rSameL_any l l true (by simp) p1 p n n c1 cap _ (HO1.out.below HB4.out) (HS.out.below (HB1.out.trans (HB4.out.mono HB1.out.size)))).mono ?_
  rintro e w5 ⟨rfl, hb5⟩
  have HB5 := Lib.hid (HB4.out.trans (hb5.mono HB4.out.size))
  have HMI5 := Lib.hid (HMI4.out.below hb5)
  have hrow := (hb5.block w2.heap.size (block_lt HR4.out)).trans HR4.out
  have HR5 := Lib.hid hrow
  have HO5 := Lib.hid (HO1.out.below HB5.out)
  have HS5 := Lib.hid (HS.out.below (HB1.out.trans (HB5.out.mono HB1.out.size)))
  have HBW5 := Lib.hid (HB1.out.trans (HB5.out.mono HB1.out.size))
  have HLR5 := Lib.hid (HMI5.out.ls Pst.cells_length (by decide))
  have HG2 := Lib.hid (block_lt hrow)
  have HBN : Hid (w1.heap.size ≤ w5.heap.size) := Lib.hid HB5.out.size
  clear hb5 hrow
  have hnr := HNR.out
  go_wp2_with fail
  go_loopw [12] (fun i wr => ∃ k : Nat, k ≤ n ∧ i = .int .i64 k ∧ Below w5.heap.size w5 wr) (fun i _ => n - (intOf i).toNat)
  case atStart => exact ⟨0, Nat.zero_le _, rfl, Below.refl _ _⟩
  case round =>
    obtain ⟨k, hk, rfl, hbw⟩ := hrel
    have HBW := Lib.hid hbw
    by_cases hkn : k < n
    · obtain ⟨x, hx⟩ : ∃ x, l[k]? = some x := ⟨_, List.getElem?_eq_getElem (by have := HN.out; omega)⟩
      have HX := Lib.hid hx
      have HC := Lib.hid (HCNT.out k x hx)
      clear hx hbw
      go_wp2
      go_loopw [13, 14] (fun c i wq => ∃ j : Nat, j ≤ r ∧ i = .int .i64 j ∧ c = .int .i64 (cnt rows x j : Nat) ∧ Below w5.heap.size w5 wq) (fun _ i _ => r - (intOf i).toNat)
      case atStart => exact ⟨0, Nat.zero_le _, rfl, rfl, HBW.out⟩
      case round =>
        obtain ⟨j, hj, rfl, rfl, hbq⟩ := hrel
        have HBQ := Lib.hid hbq
        have hrow := (hbq.block w2.heap.size HG2.out).trans HR5.out
        have hc := fun j => cell_of_row wr w2.heap.size j _ _ _ hrow
        have hcl := cnt_le rows x j
        obtain ⟨bl, ol, rfl, hbl, hrl⟩ := (HS5.out.below hbq).at HX.out
        by_cases hjr : j < r
        · obtain ⟨y, hy⟩ : ∃ y, rows[j]? = some y := ⟨_, List.getElem?_eq_getElem (by have := HRL.out; omega)⟩
          have HCS := Lib.hid (cnt_succ (x := x) hy)
          obtain ⟨br, orr, rfl, hbr, hrr⟩ := (HLR5.out.below hbq).at hy
          obtain ⟨f1, f2⟩ := loL_of hrr (Pst.cells_length y)
          obtain ⟨f3, f4⟩ := loL_of hrl (Pst.cells_length x)
          obtain ⟨q, hq⟩ : ∃ q, Rep.sameP y x = q := ⟨_, rfl⟩
          have hE : ∀ W, (Op.equalIn 10000 38 (.agg y.cells.toArray) (.agg x.cells.toArray)).run Try.prog W = .ok q W := fun W => by rw [← hq]; exact eqInG y x W
          have hE2 : ∀ W, (binOp .eql 38 (.agg y.cells.toArray) (.agg x.cells.toArray)).run Try.prog W = .ok (.bool q) W := fun W => by
            rw [run_eql_struct]
            have := hE W
            simp only [this, go_sem]
            rfl
          have hG := guardPst'
          rw [hq] at HCS
          generalize x.cells = cx at *
          generalize y.cells = cy at *
          generalize cnt rows x j = cj at *
          clear hy hrl hrr hq hbq hrow
          cases q
          all_goals
            go_wp2_with fail
            go_region
            go_wp2
            go_roundw
          · case rel => exact ⟨j + 1, by omega, by go_num, by rw [HCS.out]; simp, HBQ.out.drew⟩
          · case measure => simp [intOf]; omega
          · case rel => exact ⟨j + 1, by omega, by go_num, by rw [HCS.out]; simp, HBQ.out.drew⟩
          · case measure => simp [intOf]; omega
        · obtain rfl : j = r := by omega
          have hxd : wr.cell? ⟨bl, ol + k * 10, none⟩ = some (.int .i64 x.d) := hrl 0 _ rfl
          have hcn : cnt rows x j = if (decide (from0 ≤ x.d) && decide (x.d ≤ to0)) = true then 1 else 0 := by rw [← HWI.out]; exact HC.out
          generalize cnt rows x j = cj at *
          generalize x.d = xd at *
          have HCN := Lib.hid hcn
          clear hrl hbq hrow hcn HC
          by_cases h1 : from0 ≤ xd
          · by_cases h2 : xd ≤ to0
            · obtain rfl : cj = 1 := by rw [HCN.out]; simp [h1, h2]
              clear HCN
              go_wp2
              go_roundw
              case rel => exact ⟨k + 1, by omega, by go_num, HBQ.out⟩
              case measure => simp [intOf]; omega
            · obtain rfl : cj = 0 := by rw [HCN.out]; simp [h1, h2]
              clear HCN
              go_wp2
              go_roundw
              case rel => exact ⟨k + 1, by omega, by go_num, HBQ.out⟩
              case measure => simp [intOf]; omega
          · obtain rfl : cj = 0 := by rw [HCN.out]; simp [h1]
            clear HCN
            go_wp2
            go_roundw
            case rel => exact ⟨k + 1, by omega, by go_num, HBQ.out⟩
            case measure => simp [intOf]; omega
    · obtain rfl : k = n := by omega
      have hmi := HMI5.out.below hbw
      have hrow := (hbw.block w2.heap.size HG2.out).trans HR5.out
      have HRW := Lib.hid hrow
      rcases hmi with ⟨hv, hnil⟩ | ⟨g, cg, hv, hg, hlt, hc, hx, hrw⟩
      · injection hv with hv1 hv2 hv3
        subst hv1 hv3
        clear hv2
        have hr0 : r = 0 := by rw [← HRL.out, hnil]; rfl
        subst hr0
        have hcr := fun j => cell_of_row wr w2.heap.size j _ _ _ hrow
        have HBW8 := Lib.hid (HBW5.out.trans (hbw.mono HBW5.out.size))
        have HO8 := Lib.hid (HO5.out.below hbw)
        clear hrow hbw
        go_wp2_with fail
        go_loopw [15] (fun i wq => i = .int .i64 0 ∧ wq = wr) (fun _ _ => 0)
        case atStart => exact ⟨rfl, rfl⟩
        case round =>
          obtain ⟨rfl, rfl⟩ := hrel
          go_wp2_with fail
          refine (rSameL_any l l true (by simp) p1 p k k c1 cap _ HO8.out (HS.out.below HBW8.out)).mono ?_
          rintro e w8 ⟨rfl, hb⟩
          have HBW9 := Lib.hid (HBW8.out.trans (hb.mono HBW8.out.size))
          clear hb
          go_wp2_with fail
          refine (known17_any _).mono ?_
          rintro e w9 ⟨rfl, hb⟩
          go_wp2
          go_ret
          exact ⟨rfl, HBW9.out.trans (hb.mono HBW9.out.size)⟩
      · injection hv with hv1 hv2 hv3
        subst hv1 hv3
        clear hv2
        have HGW : Hid (w1.heap.size ≤ g ∧ g < w2.heap.size) := Lib.hid (by
          refine ⟨hg, ?_⟩
          rcases HMG.out with ⟨hv, _⟩ | ⟨g', cg', hv, _, hlt', _⟩
          · cases hv
          · injection hv with hv _ _
            injection hv with hv
            injection hv with hv
            omega)
        have HR7 := Lib.hid hrw
        have HBWr := Lib.hid hbw
        have HWR : Hid (w2.heap.size < wr.heap.size) := Lib.hid (block_lt hrow)
        clear hrw hrow hbw
        go_wp2_with fail
        go_loopw [15] (fun i wq => ∃ (j : Nat) (t : List Pst), j ≤ r ∧ i = .int .i64 j ∧ t.length = r ∧ RowL Pst.cells 10 wq g t ∧ Only g wr wq) (fun i _ => r - (intOf i).toNat)
        case atStart => exact ⟨0, rows, Nat.zero_le _, rfl, HRL.out, HR7.out, Only.refl _ _⟩
        case round =>
          obtain ⟨j, t, hj, rfl, htl, hrow, hon⟩ := hrel
          have HRJ := Lib.hid hrow; have HON := Lib.hid hon; have HTL := Lib.hid htl
          have hrep := (hon.block w2.heap.size HWR.out (by have := HGW.out.2; omega)).trans HRW.out
          have hcr := fun j => cell_of_row wr w2.heap.size j _ _ _ hrep
          by_cases hjr : j < r
          · have hth := hrow.2 j (by rw [htl]; exact hjr)
            clear hrow hon htl hrep
            go_wp2
            go_roundw
            case rel => exact ⟨j + 1, t.set j zeroP, by omega, by go_num, by rw [List.length_set]; exact HTL.out, HRJ.out.set Pst.cells_length j zeroP (by rw [HTL.out]; exact hjr), HON.out.setCells _ _⟩
            case measure => simp [intOf]; omega
          · obtain rfl : j = r := by omega
            have HO9 : Hid (Only g w5 wr) := Lib.hid ((Only.of_below HBWr.out).trans hon)
            have HBW8 : Hid (Below w.heap.size w wr) := Lib.hid (Only.below HBW5.out (Nat.le_trans HB1.out.size HGW.out.1) HBW5.out.size HO9.out)
            have HL8 : Hid (LS Pst.cells 10 wr (.slice p1 k c1) l) := Lib.hid (ls_keep HO1.out HO5.out HO9.out.size (fun i hi => HO9.out.block i (by have := HBN.out; omega) (by have := HGW.out.1; omega)))
            clear hrow hon htl hrep
            go_wp2_with fail
            refine (rSameL_any l l true (by simp) p1 p k k c1 cap _ HL8.out (HS.out.below HBW8.out)).mono ?_
            rintro e w8 ⟨rfl, hb⟩
            have HBW9 := Lib.hid (HBW8.out.trans (hb.mono HBW8.out.size))
            clear hb
            go_wp2_with fail
            refine (known17_any _).mono ?_
            rintro e w9 ⟨rfl, hb⟩
            go_wp2
            go_ret
            exact ⟨rfl, HBW9.out.trans (hb.mono HBW9.out.size)⟩

theorem walk_many (from0 to0 : Int) (l : List Pst) (p : Option Addr) (n cap : Nat) (h60 : 60 < n) (w : World) (hs : PS w (.slice p n cap) l) :
    Calls Try.prog 3 #[.int .i64 from0, .int .i64 to0, .slice p n cap] w fun e w' => e = .returned (.bool true) ∧ Below w.heap.size w w' := by
  obtain ⟨hls, hwf⟩ := ls_of_ps hs
  have hcap : n ≤ cap ∧ cap ≤ 9223372036854775807 := by have h1 := hls.length; simp only [maxLen] at h1; exact ⟨h1.2.1, h1.2.2⟩
  have hn1 := hcap.1
  have hn2 := hcap.2
  clear hs hls hwf hcap
  go_enter Try.func3, Try.ntmps3
  go_wp2_with fail
  refine (known17_any _).mono ?_
  rintro e w6 ⟨rfl, hb6⟩
  go_wp2
  go_ret
  exact ⟨rfl, hb6⟩

theorem walk (from0 to0 : Int) (l : List Pst) (p : Option Addr) (n cap : Nat) (hn : n = l.length) (w : World) (hs : PS w (.slice p n cap) l) :
    Calls Try.prog 3 #[.int .i64 from0, .int .i64 to0, .slice p n cap] w fun e w' => e = .returned (.bool true) ∧ Below w.heap.size w w' := by
  by_cases h60 : 60 < n
  · exact walk_many from0 to0 l p n cap h60 w hs
  · by_cases hd : Rep.days from0 to0 = true ∧ Rep.FineP l
    · obtain ⟨s, hsd⟩ : ∃ s, s = Srt.isort keyP l := ⟨_, rfl⟩
      have hm := Srt.isort_mix keyP l
      have hu := Srt.isort_up keyP l
      rw [← hsd] at hm hu
      have hmf := Rep.Mix.filter hm (Rep.within from0 to0)
      have huf := Rep.Up.filter hu (Rep.within from0 to0)
      have HSUM := Post.sums_fine (s.filter (Rep.within from0 to0))
      obtain ⟨x0, x1, x2, x3, x4, x5, hx⟩ := Post.six_of HSUM.1
      obtain ⟨m, hmm⟩ : ∃ m, (Post.sums (s.filter (Rep.within from0 to0))).m = m := ⟨_, rfl⟩
      obtain ⟨ev, hev⟩ : ∃ m, (Post.sums (s.filter (Rep.within from0 to0))).e = m := ⟨_, rfl⟩
      have HSM : Post.sums (s.filter (Rep.within from0 to0)) = ⟨ev, m, [x0, x1, x2, x3, x4, x5]⟩ := by rw [← hx, ← hmm, ← hev]
      have HA := fun W h => make_fit from0 to0 l p n cap (by omega) hd.1 hd.2 _ hmf huf ev m x0 x1 x2 x3 x4 x5 HSM W h
      have HB := fun W h => rMakeR_fit from0 to0 l p n cap (by omega) hd.1 hd.2 _ hmf huf ev m x0 x1 x2 x3 x4 x5 HSM W h
      by_cases he : ev = 0
      · subst he
        refine walk_ok from0 to0 l p n cap hn h60 hd.2 s hm m x0 x1 x2 x3 x4 x5 (fun W h => (HA W h).mono ?_) (fun W h => (HB W h).mono ?_) w hs
        all_goals
          rintro e w' ⟨v, h1, h2, ⟨_, rfl⟩ | ⟨h3, _⟩⟩
          · exact ⟨v, h1, h2, rfl⟩
          · exact absurd rfl h3
      · refine walk_bad from0 to0 l p n cap hn h60 ev he (fun W h => (HA W h).mono ?_) (fun W h => (HB W h).mono ?_) w hs
        all_goals
          rintro e w' ⟨v, h1, h2, ⟨h3, _⟩ | ⟨_, rfl⟩⟩
          · exact absurd h3 he
          · exact ⟨rfl, h2⟩
    · exact walk_bad from0 to0 l p n cap hn h60 2 (by decide) (fun W h => make_bad from0 to0 l p n cap (by omega) hd W h) (fun W h => rMakeR_bad from0 to0 l p n cap hd W h) w hs

set_option maxRecDepth 100000 in
theorem lifted (os : Os) (started : os.Started) (H : Type) (enc : TypeId × Value → H) :
    ReturnsInHanded {} Try.checked os 3 .any (Rows.reportMakesSpec.pre6 enc Try.prog Try.f3 Rows.reportMakesRow.domain false) (Rows.reportMakesSpec.post enc Try.prog Try.f3 false true false false) := by
  refine returnsInHanded_of_change (C := Try.checked) own started (by kernel_rfl) Try.func3
    (ChangeSpec.witness6 (enc := enc) (C := Try.checked) false ⟨#[], #[.int .i64 0, .int .i64 0, .slice none 0 0], []⟩ 8 (by kernel_rfl) (by kernel_rfl) (by kernel_rfl) (by kernel_rfl)) ?_
  intro W base args ds gs before hval0 hW hcnd _
  have hval : ∀ (j : Nat) t v, Try.f3.params[j]? = some t → args[j]? = some v → Value.okWide Try.prog W .any base t v := hval0
  have hW' := hW
  obtain ⟨p, q, hA0, hV, rfl, hfz, hnd⟩ := hW
  have hA : DataW.TrodAll enc Try.prog W 0 (fun _ => true) true Try.f3.params.toList args.toList ds p := hA0
  rw [Try.params3] at hA hval
  obtain ⟨v0, vs0, d0, ds0, p0, q0, hargs, rfl, rfl, h0, r0⟩ := trodAll_cons hA
  obtain ⟨v1, vs1, d1, ds1, p1, q1, rfl, rfl, rfl, h1, r1⟩ := trodAll_cons r0
  obtain ⟨v2, vs2, d2, ds2, p2, q2, rfl, rfl, rfl, h2, r2⟩ := trodAll_cons r1
  obtain ⟨rfl, rfl, rfl⟩ := trodAll_nil r2
  obtain rfl : args = #[v0, v1, v2] := by cases args; simp_all
  obtain ⟨from0, rfl, rfl, rfl, wfrom0⟩ := open_int Try.underlying3 (hval 0 3 v0 rfl rfl) h0
  obtain ⟨to0, rfl, rfl, rfl, wto0⟩ := open_int Try.underlying3 (hval 1 3 v1 rfl rfl) h1
  obtain ⟨l, p', n, cap, rfl, hn, hs⟩ := open_posts' (hval 2 _ v2 rfl rfl) h2
  clear hA0 hval0
  refine (walk from0 to0 l p' n cap hn W hs).mono fun e W' ⟨he, hg⟩ => ?_
  subst he
  exact ⟨_, rfl, post_law laidOut rfl hW' ⟨rfl, rfl, rfl⟩ (by kernel_rfl) hg Try.underlying4 rfl⟩

theorem proved : Rows.ReportMakesSaid :=
  OpenClaim.holds_of_wide 3 Try.f3 rfl rfl rfl rfl rfl rfl rfl ⟨rfl, rfl, rfl, rfl, rfl⟩ rfl rfl rfl rfl rfl (by kernel_rfl) Try.func3 (by kernel_rfl)
    (of_decide_eq_true (by kernel_rfl)) (by unfold Func.isWrapper; first | (rw [if_pos (by decide +kernel)]; kernel_rfl) | (rw [if_neg (by decide +kernel)]; exact ⟨rfl, rfl⟩))
    (fun os started H enc _ => lifted os started H enc)
#print axioms proved
end Go.Proofs.Ytolfekbhlfjniaa.reportMakes
