/- Contract: report.Make. -/
import Derived.Test.YtajpggnmhkpbkaaRfw32

set_option linter.unusedVariables false
set_option linter.unusedSimpArgs false
namespace Go.Proofs.Ytajpggnmhkpbkaa
open Go.RowKit

set_option maxRecDepth 4000 in
set_option maxHeartbeats 1000000 in
theorem make_bad (from0 to0 : Int) (l : List Pst) (p : Option Addr) (n cap : Nat) (hnb : n ≤ 1000000) (hbad : ¬ (Rep.days from0 to0 = true ∧ Rep.FineP l)) (w : World) (hs : PS w (.slice p n cap) l) :
    Calls Try.prog 16 #[.int .i64 from0, .int .i64 to0, .slice p n cap] w fun e w' => e = .returned (.tuple #[.agg #[.int .i64 0, .int .i64 0, .slice none 0 0, .int .i64 0, .int .i64 0, .int .i64 0, .int .i64 0, .int .i64 0, .int .i64 0, .int .i64 0], .int .i64 2]) ∧ Below w.heap.size w w' := by
  have HPS := Lib.hid hs; have HWF := Lib.hid (ps_wf hs); have HN := Lib.hid (ps_len hs).1
  have HS := Lib.hid (fun W h => sortP_any (.slice p n cap) l (by have := HN.out; omega) HWF.out W (ls_of_ps h).1)
  clear hs
  have hb0 := (((Below.refl w.heap.size w).alloc (Nat.le_refl _) (.cells #[.int .i64 from0] 3 (0, 0))).alloc (by simp) (.cells #[.int .i64 to0] 3 (0, 0))).alloc (by simp; omega) (.cells #[.int .i64 0, .int .i64 0, .slice none 0 0, .int .i64 0, .int .i64 0, .int .i64 0, .int .i64 0, .int .i64 0, .int .i64 0, .int .i64 0] 43 (0, 0))
  have hr0 := row_alloc (row_alloc (new_row w (.cells #[.int .i64 from0] 3 (0, 0)) _ rfl) (.cells #[.int .i64 to0] 3 (0, 0))) (.cells #[.int .i64 0, .int .i64 0, .slice none 0 0, .int .i64 0, .int .i64 0, .int .i64 0, .int .i64 0, .int .i64 0, .int .i64 0, .int .i64 0] 43 (0, 0))
  have hr1 := row_alloc (new_row (w.alloc (.cells #[.int .i64 from0] 3 (0, 0))) (.cells #[.int .i64 to0] 3 (0, 0)) (w.heap.size + 1) (by simp)) (.cells #[.int .i64 0, .int .i64 0, .slice none 0 0, .int .i64 0, .int .i64 0, .int .i64 0, .int .i64 0, .int .i64 0, .int .i64 0, .int .i64 0] 43 (0, 0))
  have hr2 := new_row ((w.alloc (.cells #[.int .i64 from0] 3 (0, 0))).alloc (.cells #[.int .i64 to0] 3 (0, 0))) (.cells #[.int .i64 0, .int .i64 0, .slice none 0 0, .int .i64 0, .int .i64 0, .int .i64 0, .int .i64 0, .int .i64 0, .int .i64 0, .int .i64 0] 43 (0, 0)) (w.heap.size + 2) (by simp)
  go_enter Try.func16, Try.ntmps16
  go_wp2_with fail
  generalize ((w.alloc (.cells #[.int .i64 from0] 3 (0, 0))).alloc (.cells #[.int .i64 to0] 3 (0, 0))).alloc (.cells #[.int .i64 0, .int .i64 0, .slice none 0 0, .int .i64 0, .int .i64 0, .int .i64 0, .int .i64 0, .int .i64 0, .int .i64 0, .int .i64 0] 43 (0, 0)) = W0 at *
  refine (HS.out _ (HPS.out.below hb0)).mono ?_
  rintro e w1 ⟨v1, s, rfl, hm, hu, hmine, hb1⟩
  have hr0 := (hb1.block w.heap.size (block_lt hr0)).trans hr0
  have hr1 := (hb1.block (w.heap.size + 1) (block_lt hr1)).trans hr1
  have hr2 := (hb1.block (w.heap.size + 2) (block_lt hr2)).trans hr2
  have HB1 := Lib.hid (hb0.trans (hb1.mono hb0.size))
  have HM := Lib.hid hm; have HU := Lib.hid hu
  have HLS := Lib.hid (ps_of_ls (hmine.ls Pst.cells_length (by decide)) (WF.mix hm HWF.out))
  have HSL : Hid (s.length = n) := Lib.hid (by rw [← hm.1, HN.out])
  obtain ⟨p1, c1, hv⟩ := (hmine.ls Pst.cells_length (by decide)).shape
  rw [HSL.out] at hv
  subst hv
  clear hm hu hmine hb1 hb0
  have HR0 := Lib.hid hr0; have HR1 := Lib.hid hr1; have HR2 := Lib.hid hr2
  have hc0 := cell_of_row w1 w.heap.size 0 _ _ _ hr0
  have hc1 := cell_of_row w1 (w.heap.size + 1) 0 _ _ _ hr1
  have hc2 := fun j => cell_of_row w1 (w.heap.size + 2) j _ _ _ hr2
  have hf2 := fun j => frozen_of_row w1 (w.heap.size + 2) j _ _ hr2
  have hz0 := block_lt hr0; have hz1 := block_lt hr1; have hz2 := block_lt hr2
  clear hr0 hr1 hr2
  by_cases hd : Rep.days from0 to0 = true
  · have HRS : Hid (∀ W, PS W (.slice p1 n c1) s → _) := Lib.hid (fun W h => rising_any s false (by
      have h1 := Rep.ris_of HWF.out HM.out HU.out
      constructor
      · intro h; cases h
      · intro h; exact absurd ⟨hd, h1.1 h⟩ hbad) p1 n c1 W h)
    have HD : Hid (∀ W, Calls Try.prog 37 #[.int .i64 from0, .int .i64 to0] W fun e w' => e = .returned (.bool true) ∧ W = w') := Lib.hid (fun W => by have := pDays_any from0 to0 W; rwa [hd] at this)
    clear hbad hd
    go_wp2_with fail
    refine (HD.out _).mono ?_
    rintro e w2 ⟨rfl, rfl⟩
    go_wp2_with fail
    refine (HRS.out _ HLS.out).mono ?_
    rintro e w2 ⟨rfl, hb2⟩
    have hr2 := (hb2.block (w.heap.size + 2) hz2).trans HR2.out
    have HB2 := Lib.hid (HB1.out.trans (hb2.mono HB1.out.size))
    clear hb2 hc0 hc1 hc2 hf2
    have hc2 := fun j => cell_of_row w2 (w.heap.size + 2) j _ _ _ hr2
    have hf2 := fun j => frozen_of_row w2 (w.heap.size + 2) j _ _ hr2
    have HR2 := Lib.hid hr2
    clear hr2
    go_wp2
    have hrow := ten_row HR2.out (.int .i64 0) (.int .i64 0) (.slice none 0 0) (.int .i64 0) (.int .i64 0) (.int .i64 0) (.int .i64 0) (.int .i64 0) (.int .i64 0) (.int .i64 0)
    refine bodyPost_ret (v := .tuple #[.agg #[.int .i64 0, .int .i64 0, .slice none 0 0, .int .i64 0, .int .i64 0, .int .i64 0, .int .i64 0, .int .i64 0, .int .i64 0, .int .i64 0], .int .i64 2]) (by simp [results, Try.results16, go_sem, fun i => cell_of_row _ _ i _ _ _ hrow]) rfl ⟨rfl, ?_⟩
    exact ten_below HB2.out (by omega) _ _ _ _ _ _ _ _ _ _
  · have HD : Hid (∀ W, Calls Try.prog 37 #[.int .i64 from0, .int .i64 to0] W fun e w' => e = .returned (.bool false) ∧ W = w') := Lib.hid (fun W => by have := pDays_any from0 to0 W; rw [show Rep.days from0 to0 = false by simpa using hd] at this; exact this)
    clear hbad hd
    go_wp2_with fail
    refine (HD.out _).mono ?_
    rintro e w2 ⟨rfl, rfl⟩
    go_wp2
    have hrow := ten_row HR2.out (.int .i64 0) (.int .i64 0) (.slice none 0 0) (.int .i64 0) (.int .i64 0) (.int .i64 0) (.int .i64 0) (.int .i64 0) (.int .i64 0) (.int .i64 0)
    refine bodyPost_ret (v := .tuple #[.agg #[.int .i64 0, .int .i64 0, .slice none 0 0, .int .i64 0, .int .i64 0, .int .i64 0, .int .i64 0, .int .i64 0, .int .i64 0, .int .i64 0], .int .i64 2]) (by simp [results, Try.results16, go_sem, fun i => cell_of_row _ _ i _ _ _ hrow]) rfl ⟨rfl, ?_⟩
    exact ten_below HB1.out (by omega) _ _ _ _ _ _ _ _ _ _

set_option maxRecDepth 4000 in
set_option maxHeartbeats 2000000 in
theorem make_ok (from0 to0 : Int) (l : List Pst) (p : Option Addr) (n cap : Nat) (hnb : n ≤ 1000000) (hd : Rep.days from0 to0 = true) (hfine : Rep.FineP l) (w : World) (hs : PS w (.slice p n cap) l) :
    Calls Try.prog 16 #[.int .i64 from0, .int .i64 to0, .slice p n cap] w fun e w' => ∃ (v : Value) (rows : List Pst) (ev m x0 x1 x2 x3 x4 x5 : Int), Post.sums rows = ⟨ev, m, [x0, x1, x2, x3, x4, x5]⟩ ∧
      Srt.Mix keyP (l.filter (Rep.within from0 to0)) rows ∧ Srt.Up keyP rows ∧ (∃ s, Srt.Mix keyP l s ∧ rows = s.filter (Rep.within from0 to0)) ∧ Mine Pst.cells 10 w' w.heap.size v rows ∧ Below w.heap.size w w' ∧ (ev = 0 ∧ e = .returned (.tuple #[.agg #[.int .i64 from0, .int .i64 to0, v, .int .i64 m, .int .i64 x0, .int .i64 x1, .int .i64 x2, .int .i64 x3, .int .i64 x4, .int .i64 x5], .int .i64 0]) ∨ ¬ ev = 0 ∧ e = .returned (.tuple #[.agg #[.int .i64 0, .int .i64 0, .slice none 0 0, .int .i64 0, .int .i64 0, .int .i64 0, .int .i64 0, .int .i64 0, .int .i64 0, .int .i64 0], .int .i64 ev])) := by
  have HPS := Lib.hid hs; have HWF := Lib.hid (ps_wf hs); have HN := Lib.hid (ps_len hs).1
  have HS := Lib.hid (fun W h => sortP_any (.slice p n cap) l (by have := HN.out; omega) HWF.out W (ls_of_ps h).1)
  clear hs
  have hb0 := (((Below.refl w.heap.size w).alloc (Nat.le_refl _) (.cells #[.int .i64 from0] 3 (0, 0))).alloc (by simp) (.cells #[.int .i64 to0] 3 (0, 0))).alloc (by simp; omega) (.cells #[.int .i64 0, .int .i64 0, .slice none 0 0, .int .i64 0, .int .i64 0, .int .i64 0, .int .i64 0, .int .i64 0, .int .i64 0, .int .i64 0] 43 (0, 0))
  have hr0 := row_alloc (row_alloc (new_row w (.cells #[.int .i64 from0] 3 (0, 0)) _ rfl) (.cells #[.int .i64 to0] 3 (0, 0))) (.cells #[.int .i64 0, .int .i64 0, .slice none 0 0, .int .i64 0, .int .i64 0, .int .i64 0, .int .i64 0, .int .i64 0, .int .i64 0, .int .i64 0] 43 (0, 0))
  have hr1 := row_alloc (new_row (w.alloc (.cells #[.int .i64 from0] 3 (0, 0))) (.cells #[.int .i64 to0] 3 (0, 0)) (w.heap.size + 1) (by simp)) (.cells #[.int .i64 0, .int .i64 0, .slice none 0 0, .int .i64 0, .int .i64 0, .int .i64 0, .int .i64 0, .int .i64 0, .int .i64 0, .int .i64 0] 43 (0, 0))
  have hr2 := new_row ((w.alloc (.cells #[.int .i64 from0] 3 (0, 0))).alloc (.cells #[.int .i64 to0] 3 (0, 0))) (.cells #[.int .i64 0, .int .i64 0, .slice none 0 0, .int .i64 0, .int .i64 0, .int .i64 0, .int .i64 0, .int .i64 0, .int .i64 0, .int .i64 0] 43 (0, 0)) (w.heap.size + 2) (by simp)
  go_enter Try.func16, Try.ntmps16
  go_wp2_with fail
  generalize ((w.alloc (.cells #[.int .i64 from0] 3 (0, 0))).alloc (.cells #[.int .i64 to0] 3 (0, 0))).alloc (.cells #[.int .i64 0, .int .i64 0, .slice none 0 0, .int .i64 0, .int .i64 0, .int .i64 0, .int .i64 0, .int .i64 0, .int .i64 0, .int .i64 0] 43 (0, 0)) = W0 at *
  refine (HS.out _ (HPS.out.below hb0)).mono ?_
  rintro e w1 ⟨v1, s, rfl, hm, hu, hmine, hb1⟩
  have hr0 := (hb1.block w.heap.size (block_lt hr0)).trans hr0
  have hr1 := (hb1.block (w.heap.size + 1) (block_lt hr1)).trans hr1
  have hr2 := (hb1.block (w.heap.size + 2) (block_lt hr2)).trans hr2
  have HB1 := Lib.hid (hb0.trans (hb1.mono hb0.size))
  have HM := Lib.hid hm; have HU := Lib.hid hu
  have HLS := Lib.hid (ps_of_ls (hmine.ls Pst.cells_length (by decide)) (WF.mix hm HWF.out))
  have HSL : Hid (s.length = n) := Lib.hid (by rw [← hm.1, HN.out])
  obtain ⟨p1, c1, hv⟩ := (hmine.ls Pst.cells_length (by decide)).shape
  rw [HSL.out] at hv
  subst hv
  clear hm hu hmine hb1 hb0
  have HR0 := Lib.hid hr0; have HR1 := Lib.hid hr1; have HR2 := Lib.hid hr2
  have hc0 := cell_of_row w1 w.heap.size 0 _ _ _ hr0
  have hc1 := cell_of_row w1 (w.heap.size + 1) 0 _ _ _ hr1
  have hc2 := fun j => cell_of_row w1 (w.heap.size + 2) j _ _ _ hr2
  have hf2 := fun j => frozen_of_row w1 (w.heap.size + 2) j _ _ hr2
  have hz0 := block_lt hr0; have hz1 := block_lt hr1; have hz2 := block_lt hr2
  clear hr0 hr1 hr2
  have HRS : Hid (∀ W, PS W (.slice p1 n c1) s → _) := Lib.hid (fun W h => rising_any s true (by
    have h1 := Rep.ris_of HWF.out HM.out HU.out
    exact ⟨fun _ => h1.2 hfine, fun _ => rfl⟩) p1 n c1 W h)
  have HD : Hid (∀ W, Calls Try.prog 37 #[.int .i64 from0, .int .i64 to0] W fun e w' => e = .returned (.bool true) ∧ W = w') := Lib.hid (fun W => by have := pDays_any from0 to0 W; rwa [hd] at this)
  clear hd hfine
  go_wp2_with fail
  refine (HD.out _).mono ?_
  rintro e w2 ⟨rfl, rfl⟩
  go_wp2_with fail
  refine (HRS.out _ HLS.out).mono ?_
  rintro e w2 ⟨rfl, hb2⟩
  have hr0 := (hb2.block w.heap.size hz0).trans HR0.out
  have hr1 := (hb2.block (w.heap.size + 1) hz1).trans HR1.out
  have hr2 := (hb2.block (w.heap.size + 2) hz2).trans HR2.out
  have HB2 := Lib.hid (HB1.out.trans (hb2.mono HB1.out.size))
  have HLS2 := Lib.hid (HLS.out.below hb2)
  clear hb2 hc0 hc1 hc2 hf2 HB1 HLS HR0 HR1 HR2 HRS HD HPS HS
  have hc0 := cell_of_row w2 w.heap.size 0 _ _ _ hr0
  have hc1 := cell_of_row w2 (w.heap.size + 1) 0 _ _ _ hr1
  have HR2 := Lib.hid hr2
  have hz0 := block_lt hr0; have hz1 := block_lt hr1; have hz2 := block_lt hr2
  have HSUM := Lib.hid (Post.sums_fine (s.filter (Rep.within from0 to0)))
  obtain ⟨x0, x1, x2, x3, x4, x5, hx⟩ := Post.six_of HSUM.out.1
  obtain ⟨m, hm⟩ : ∃ m, (Post.sums (s.filter (Rep.within from0 to0))).m = m := ⟨_, rfl⟩
  obtain ⟨ev, hev⟩ : ∃ m, (Post.sums (s.filter (Rep.within from0 to0))).e = m := ⟨_, rfl⟩
  have HSM : Hid (Post.sums (s.filter (Rep.within from0 to0)) = ⟨ev, m, [x0, x1, x2, x3, x4, x5]⟩) := Lib.hid (by rw [← hx, ← hm, ← hev])
  have HWFR : Hid (WF (s.filter (Rep.within from0 to0))) := Lib.hid (fun z hz => WF.mix HM.out HWF.out z (List.mem_filter.1 hz).1)
  have HPK : Hid (∀ W, PS W (.slice p1 n c1) s → W.cell? ⟨w.heap.size, 0, none⟩ = some (.int .i64 from0) → W.cell? ⟨w.heap.size + 1, 0, none⟩ = some (.int .i64 to0) → _) := Lib.hid (fun W h h1 h2 => pickMake_any s from0 to0 w.heap.size (w.heap.size + 1) p1 n c1 hnb W h h1 h2)
  clear hx hm hev HSUM hr0 hr1 hr2
  have HMX : Hid (Srt.Mix keyP (l.filter (Rep.within from0 to0)) (s.filter (Rep.within from0 to0))) := Lib.hid (Rep.Mix.filter HM.out _)
  have HUX : Hid (Srt.Up keyP (s.filter (Rep.within from0 to0))) := Lib.hid (Rep.Up.filter HU.out _)
  have HEX : Hid (∃ s', Srt.Mix keyP l s' ∧ s.filter (Rep.within from0 to0) = s'.filter (Rep.within from0 to0)) := Lib.hid ⟨s, HM.out, rfl⟩
  generalize s.filter (Rep.within from0 to0) = rows at *
  have hne02 : ¬ w.heap.size = w.heap.size + 2 := by omega
  have hne12 : ¬ w.heap.size + 1 = w.heap.size + 2 := by omega
  have HLE : Hid (w.heap.size ≤ w.heap.size + 2 ∧ w.heap.size + 2 < w2.heap.size) := Lib.hid ⟨by omega, hz2⟩
  generalize w.heap.size + 2 = b2 at *
  generalize w.heap.size + 1 = b1 at *
  have hne20 : ¬ b2 = w.heap.size := fun h => hne02 h.symm
  have hne21 : ¬ b2 = b1 := fun h => hne12 h.symm
  by_cases he : ev = 0
  · subst he
    have HMD : Hid (∀ (p' : Option Addr) (n' cap' : Nat) (W : World), PS W (.slice p' n' cap') rows → _) := Lib.hid (fun p' n' cap' W h => made_ok from0 to0 rows p' n' cap' W h m x0 x1 x2 x3 x4 x5 HSM.out)
    go_wp2_with fail
    go_region_held3 (fun w' => w'.cell? ⟨w.heap.size, 0, none⟩ = some (.int .i64 from0) ∧ w'.cell? ⟨b1, 0, none⟩ = some (.int .i64 to0)) (first | with_reducible exact ⟨hc0, hc1⟩ | with_reducible exact ⟨d0, d1⟩ | with_reducible exact ⟨e0, e1⟩ | go_keep) (first
      | (go_at_call 40; refine (HPK.out _ (HLS2.out.below (Below.refl _ _).drew) hc0 hc1).mono ?_; rintro e w3 ⟨v3, rfl, hown, hb3⟩; have HO3 := Lib.hid hown; have HB3 := Lib.hid ((Below.refl w2.heap.size w2).drew.trans hb3); obtain ⟨p3, c3, hv3⟩ := (LS.of_own hown Pst.cells_length (by decide)).shape; subst hv3; have d0 := (HB3.out.cell (p := ⟨w.heap.size, 0, none⟩) hz0).trans hc0; have d1 := (HB3.out.cell (p := ⟨b1, 0, none⟩) hz1).trans hc1; clear hown hb3)
      | (go_at_call 39; refine (HMD.out _ _ _ _ (ps_of_ls (LS.of_own HO3.out Pst.cells_length (by decide)) HWFR.out)).mono ?_; rintro e w4 ⟨rfl, hb4⟩; have HB43 := Lib.hid hb4; have HB42 := Lib.hid (HB3.out.trans (hb4.mono HB3.out.size)); have hr4 := (HB42.out.block (b2) hz2).trans HR2.out; have HR4 := Lib.hid hr4; have hf4 := fun j => frozen_of_row w4 (b2) j _ _ hr4; have hc4 := fun j => cell_of_row w4 (b2) j _ _ _ hr4; have hz4 := block_lt hr4; have e0 := (HB42.out.cell (p := ⟨w.heap.size, 0, none⟩) hz0).trans hc0; have e1 := (HB42.out.cell (p := ⟨b1, 0, none⟩) hz1).trans hc1; have HB4 := Lib.hid (HB2.out.trans (HB42.out.mono HB2.out.size)); clear hb4 hr4))
    go_wp2
    have hrow := ten_row HR4.out (.int .i64 from0) (.int .i64 to0) (.slice p3 rows.length c3) (.int .i64 m) (.int .i64 x0) (.int .i64 x1) (.int .i64 x2) (.int .i64 x3) (.int .i64 x4) (.int .i64 x5)
    refine bodyPost_ret (v := .tuple #[.agg #[.int .i64 from0, .int .i64 to0, (.slice p3 rows.length c3), .int .i64 m, .int .i64 x0, .int .i64 x1, .int .i64 x2, .int .i64 x3, .int .i64 x4, .int .i64 x5], .int .i64 0]) (by simp [results, Try.results16, go_sem, fun i => cell_of_row _ _ i _ _ _ hrow]) rfl ⟨_, rows, 0, m, x0, x1, x2, x3, x4, x5, HSM.out, HMX.out, HUX.out, HEX.out, ?_, ?_, .inl ⟨rfl, rfl⟩⟩
    · exact Mine.of_own (own_only HO3.out HB43.out (ten_only (.refl _ _) _ _ _ _ _ _ _ _ _ _) HLE.out.2 HB2.out.size) Pst.cells_length (by decide)
    · exact ten_below HB4.out HLE.out.1 _ _ _ _ _ _ _ _ _ _
  · have HMD : Hid (∀ (p' : Option Addr) (n' cap' : Nat) (W : World), PS W (.slice p' n' cap') rows → _) := Lib.hid (fun p' n' cap' W h => made_bad from0 to0 rows p' n' cap' W h ev m x0 x1 x2 x3 x4 x5 HSM.out he)
    go_wp2_with fail
    go_region_held3 (fun w' => w'.cell? ⟨w.heap.size, 0, none⟩ = some (.int .i64 from0) ∧ w'.cell? ⟨b1, 0, none⟩ = some (.int .i64 to0)) (first | with_reducible exact ⟨hc0, hc1⟩ | with_reducible exact ⟨d0, d1⟩ | with_reducible exact ⟨e0, e1⟩ | go_keep) (first
      | (go_at_call 40; refine (HPK.out _ (HLS2.out.below (Below.refl _ _).drew) hc0 hc1).mono ?_; rintro e w3 ⟨v3, rfl, hown, hb3⟩; have HO3 := Lib.hid hown; have HB3 := Lib.hid ((Below.refl w2.heap.size w2).drew.trans hb3); obtain ⟨p3, c3, hv3⟩ := (LS.of_own hown Pst.cells_length (by decide)).shape; subst hv3; have d0 := (HB3.out.cell (p := ⟨w.heap.size, 0, none⟩) hz0).trans hc0; have d1 := (HB3.out.cell (p := ⟨b1, 0, none⟩) hz1).trans hc1; clear hown hb3)
      | (go_at_call 39; refine (HMD.out _ _ _ _ (ps_of_ls (LS.of_own HO3.out Pst.cells_length (by decide)) HWFR.out)).mono ?_; rintro e w4 ⟨rfl, hb4⟩; have HB43 := Lib.hid hb4; have HB42 := Lib.hid (HB3.out.trans (hb4.mono HB3.out.size)); have hr4 := (HB42.out.block (b2) hz2).trans HR2.out; have HR4 := Lib.hid hr4; have hf4 := fun j => frozen_of_row w4 (b2) j _ _ hr4; have hc4 := fun j => cell_of_row w4 (b2) j _ _ _ hr4; have hz4 := block_lt hr4; have e0 := (HB42.out.cell (p := ⟨w.heap.size, 0, none⟩) hz0).trans hc0; have e1 := (HB42.out.cell (p := ⟨b1, 0, none⟩) hz1).trans hc1; have HB4 := Lib.hid (HB2.out.trans (HB42.out.mono HB2.out.size)); clear hb4 hr4))
    go_wp2
    have hrow := ten_row HR4.out (.int .i64 0) (.int .i64 0) (.slice none 0 0) (.int .i64 0) (.int .i64 0) (.int .i64 0) (.int .i64 0) (.int .i64 0) (.int .i64 0) (.int .i64 0)
    refine bodyPost_ret (v := .tuple #[.agg #[.int .i64 0, .int .i64 0, .slice none 0 0, .int .i64 0, .int .i64 0, .int .i64 0, .int .i64 0, .int .i64 0, .int .i64 0, .int .i64 0], .int .i64 ev]) (by simp [results, Try.results16, go_sem, fun i => cell_of_row _ _ i _ _ _ hrow]) rfl ⟨.slice p3 rows.length c3, rows, ev, m, x0, x1, x2, x3, x4, x5, HSM.out, HMX.out, HUX.out, HEX.out, ?_, ?_, .inr ⟨he, rfl⟩⟩
    · exact Mine.of_own (own_only HO3.out HB43.out (ten_only (.refl _ _) _ _ _ _ _ _ _ _ _ _) HLE.out.2 HB2.out.size) Pst.cells_length (by decide)
    · exact ten_below HB4.out HLE.out.1 _ _ _ _ _ _ _ _ _ _
end Go.Proofs.Ytajpggnmhkpbkaa
