/- RequestNames returns true for every two requests and way, and leaves the memory that was there as it was. -/
import Derived.Test.YtbmphlpmipkpcaaGreatRnm51
import Derived.Test.YtbmphlpmipkpcaaGreatRows
import Derived.ProofKit

set_option linter.unusedVariables false
set_option linter.unusedSimpArgs false
namespace Go.Proofs.YtbmphlpmipkpcaaGreat.requestNames
open Go.ChangeShapes Go.WideShapes Go.ChangeAt Go.RowKit Go.Deep
attribute [local go_sem ↓] Rq_execLoad Rq_execStore

attribute [local go_sem] Rq_load Rq_store loL_drew okL_drew there_sc World.there_drew

set_option maxRecDepth 8000 in
set_option maxHeartbeats 8000000 in
theorem walk (a : Rqt) (p1 p2 : Option Addr) (n1 z1 n2 z2 : Nat) (b : Rqt) (s1 s2 : Option Addr) (m1 y1 m2 y2 : Nat) (z : Int) (w : World) (hac : LS Cpn.cells 6 w (.slice p1 n1 z1) a.cs) (hax : LS Txx.cells 2 w (.slice p2 n2 z2) a.xs) (haw : a.wf) (hbc : LS Cpn.cells 6 w (.slice s1 m1 y1) b.cs) (hbx : LS Txx.cells 2 w (.slice s2 m2 y2) b.xs) (hbw : b.wf) : Calls Tryz.prog 5 #[.agg #[.string a.key, .int .i64 a.k, .int .i64 a.d, .int .u64 a.tk, .int .i64 a.c, .int .i64 a.st, .string a.loc, .slice p1 n1 z1, .slice p2 n2 z2, .int .i64 a.am, .int .i64 a.fr, .int .i64 a.tt], .agg #[.string b.key, .int .i64 b.k, .int .i64 b.d, .int .u64 b.tk, .int .i64 b.c, .int .i64 b.st, .string b.loc, .slice s1 m1 y1, .slice s2 m2 y2, .int .i64 b.am, .int .i64 b.fr, .int .i64 b.tt], .int .i64 z] w fun e w' => e = .returned (.bool true) ∧ Below w.heap.size w w' := by
  have HAC := Lib.hid hac
  have HAX := Lib.hid hax
  have HBC := Lib.hid hbc
  have HBX := Lib.hid hbx
  have hn1 := hac.length
  have hn2 := hax.length
  have hm1 := hbc.length
  have hm2 := hbx.length
  have hb1 := (Below.refl w.heap.size w).alloc (Nat.le_refl _) (.cells #[.string a.key, .int .i64 a.k, .int .i64 a.d, .int .u64 a.tk, .int .i64 a.c, .int .i64 a.st, .string a.loc, .slice p1 n1 z1, .slice p2 n2 z2, .int .i64 a.am, .int .i64 a.fr, .int .i64 a.tt] 57 (0, 0))
  have hr1 := new_rowW w (.cells #[.string a.key, .int .i64 a.k, .int .i64 a.d, .int .u64 a.tk, .int .i64 a.c, .int .i64 a.st, .string a.loc, .slice p1 n1 z1, .slice p2 n2 z2, .int .i64 a.am, .int .i64 a.fr, .int .i64 a.tt] 57 (0, 0)) _ rfl
  have hb2 := (Below.refl (w.alloc (.cells #[.string a.key, .int .i64 a.k, .int .i64 a.d, .int .u64 a.tk, .int .i64 a.c, .int .i64 a.st, .string a.loc, .slice p1 n1 z1, .slice p2 n2 z2, .int .i64 a.am, .int .i64 a.fr, .int .i64 a.tt] 57 (0, 0))).heap.size (w.alloc (.cells #[.string a.key, .int .i64 a.k, .int .i64 a.d, .int .u64 a.tk, .int .i64 a.c, .int .i64 a.st, .string a.loc, .slice p1 n1 z1, .slice p2 n2 z2, .int .i64 a.am, .int .i64 a.fr, .int .i64 a.tt] 57 (0, 0)))).alloc (Nat.le_refl _) (.cells #[.string b.key, .int .i64 b.k, .int .i64 b.d, .int .u64 b.tk, .int .i64 b.c, .int .i64 b.st, .string b.loc, .slice s1 m1 y1, .slice s2 m2 y2, .int .i64 b.am, .int .i64 b.fr, .int .i64 b.tt] 57 (0, 0))
  have hr2 := new_rowW (w.alloc (.cells #[.string a.key, .int .i64 a.k, .int .i64 a.d, .int .u64 a.tk, .int .i64 a.c, .int .i64 a.st, .string a.loc, .slice p1 n1 z1, .slice p2 n2 z2, .int .i64 a.am, .int .i64 a.fr, .int .i64 a.tt] 57 (0, 0))) (.cells #[.string b.key, .int .i64 b.k, .int .i64 b.d, .int .u64 b.tk, .int .i64 b.c, .int .i64 b.st, .string b.loc, .slice s1 m1 y1, .slice s2 m2 y2, .int .i64 b.am, .int .i64 b.fr, .int .i64 b.tt] 57 (0, 0)) _ rfl
  have HRA := Lib.hid ((hb2.block _ (block_lt hr1)).trans hr1)
  have hsz : (w.alloc (.cells #[.string a.key, .int .i64 a.k, .int .i64 a.d, .int .u64 a.tk, .int .i64 a.c, .int .i64 a.st, .string a.loc, .slice p1 n1 z1, .slice p2 n2 z2, .int .i64 a.am, .int .i64 a.fr, .int .i64 a.tt] 57 (0, 0))).heap.size = w.heap.size + 1 := by simp
  rw [hsz] at hr2
  have HB := Lib.hid (hb1.trans (hb2.mono hb1.size))
  have HRB := Lib.hid hr2
  clear hb1 hb2 hr1 hr2 hsz hac hax hbc hbx
  have HMA := Lib.hid (fun W => rMuch16_any a p1 p2 n1 z1 n2 z2 W (by omega) (by omega) haw.key haw.loc)
  have HMB := Lib.hid (fun W => rMuch16_any b s1 s2 m1 y1 m2 y2 W (by omega) (by omega) hbw.key hbw.loc)
  have HMY := Lib.hid (fun W hb => rMay16_any a haw p1 p2 n1 z1 n2 z2 W (HAC.out.below hb) (HAX.out.below hb))
  obtain ⟨qa, hqa⟩ : ∃ q, (decide (40 < n1) || decide (40 < n2) || decide (200 < a.key.size) || decide (200 < a.loc.size)) = q := ⟨_, rfl⟩
  rw [hqa] at HMA
  obtain ⟨qb, hqb⟩ : ∃ q, (decide (40 < m1) || decide (40 < m2) || decide (200 < b.key.size) || decide (200 < b.loc.size)) = q := ⟨_, rfl⟩
  rw [hqb] at HMB
  have HLA : Hid (qa = false → a.cs.length ≤ 40 ∧ a.xs.length ≤ 40) := Lib.hid (by rintro rfl; simp at hqa; omega)
  have HLB : Hid (qb = false → b.cs.length ≤ 40 ∧ b.xs.length ≤ 40) := Lib.hid (by rintro rfl; simp at hqb; omega)
  obtain ⟨qm, hqm⟩ : ∃ q, Rq.rmayRq a = q := ⟨_, rfl⟩
  rw [hqm] at HMY
  have HQM := Lib.hid hqm
  have HWA := Lib.hid haw; have HWB := Lib.hid hbw
  clear hqa hqb hqm hn1 hn2 hm1 hm2 haw hbw
  go_enter Tryz.func5, Tryz.ntmps5
  obtain ⟨f1, f2⟩ := row_loT 12 HRA.out rfl rfl
  obtain ⟨f3, f4⟩ := row_loT 12 HRB.out rfl rfl
  go_wp2_with fail
  clear f1 f2 f3 f4
  refine (HMA.out _).mono ?_
  rintro e w1 ⟨rfl, hb⟩
  replace HRA := Lib.hid ((hb.block _ (block_lt HRA.out)).trans HRA.out)
  replace HRB := Lib.hid ((hb.block _ (block_lt HRB.out)).trans HRB.out)
  replace HB := Lib.hid (HB.out.trans (hb.mono HB.out.size))
  clear hb
  cases qa
  case true =>
    go_wp2_with fail
    refine (known16_any _).mono ?_
    rintro e wz ⟨rfl, hb⟩
    have HBZ := Lib.hid (HB.out.trans (hb.mono HB.out.size))
    clear hb
    go_wp2
    go_ret
    exact ⟨rfl, HBZ.out⟩
  obtain ⟨f1, f2⟩ := row_loT 12 HRA.out rfl rfl
  obtain ⟨f3, f4⟩ := row_loT 12 HRB.out rfl rfl
  go_wp2_with fail
  clear f1 f2 f3 f4
  refine (HMB.out _).mono ?_
  rintro e w2 ⟨rfl, hb⟩
  replace HRA := Lib.hid ((hb.block _ (block_lt HRA.out)).trans HRA.out)
  replace HRB := Lib.hid ((hb.block _ (block_lt HRB.out)).trans HRB.out)
  replace HB := Lib.hid (HB.out.trans (hb.mono HB.out.size))
  clear hb
  cases qb
  case true =>
    go_wp2_with fail
    refine (known16_any _).mono ?_
    rintro e wz ⟨rfl, hb⟩
    have HBZ := Lib.hid (HB.out.trans (hb.mono HB.out.size))
    clear hb
    go_wp2
    go_ret
    exact ⟨rfl, HBZ.out⟩
  obtain ⟨f1, f2⟩ := row_loT 12 HRA.out rfl rfl
  obtain ⟨f3, f4⟩ := row_loT 12 HRB.out rfl rfl
  go_wp2_with fail
  clear f1 f2 f3 f4
  refine (HMY.out _ HB.out).mono ?_
  rintro e w3 ⟨rfl, hb⟩
  replace HRA := Lib.hid ((hb.block _ (block_lt HRA.out)).trans HRA.out)
  replace HRB := Lib.hid ((hb.block _ (block_lt HRB.out)).trans HRB.out)
  replace HB := Lib.hid (HB.out.trans (hb.mono HB.out.size))
  clear hb
  cases qm
  case false =>
    go_wp2_with fail
    refine (known16_any _).mono ?_
    rintro e wz ⟨rfl, hb⟩
    have HBZ := Lib.hid (HB.out.trans (hb.mono HB.out.size))
    clear hb
    go_wp2
    go_ret
    exact ⟨rfl, HBZ.out⟩
  have HL1 := Lib.hid (HLA.out (by trivial))
  have HL2 := Lib.hid (HLB.out (by trivial))
  clear HMA HMB HMY HLA HLB
  obtain ⟨f1, f2⟩ := row_loT 12 HRA.out rfl rfl
  obtain ⟨f3, f4⟩ := row_loT 12 HRB.out rfl rfl
  go_wp2_with fail
  clear f1 f2 f3 f4
  refine (rcopied_any a p1 p2 n1 z1 n2 z2 _ (HAC.out.below HB.out) (HAX.out.below HB.out) (by have := HL1.out; omega) (by have := HL1.out; omega)).mono ?_
  rintro e w4 ⟨cv, tv, rfl, hoc, hox, hb⟩
  obtain ⟨e1, g1, rfl⟩ := rec_formT hoc
  obtain ⟨e2, g2, rfl⟩ := rec_formT hox
  have HOC := Lib.hid hoc
  have HOX := Lib.hid hox
  clear hoc hox
  replace HRA := Lib.hid ((hb.block _ (block_lt HRA.out)).trans HRA.out)
  replace HRB := Lib.hid ((hb.block _ (block_lt HRB.out)).trans HRB.out)
  replace HB := Lib.hid (HB.out.trans (hb.mono HB.out.size))
  clear hb
  have tc := there_newT (w := w4) (zs := [.string ⟨#[]⟩, .int .i64 0, .int .i64 0, .int .u64 0, .int .i64 0, .int .i64 0, .string ⟨#[]⟩, .slice none 0 0, .slice none 0 0, .int .i64 0, .int .i64 0, .int .i64 0]) (e := 57) (n := 12) rfl
  have c6n : ([.string a.key, .int .i64 a.k, .int .i64 a.d, .int .u64 a.tk, .int .i64 a.c, .int .i64 a.st, .string a.loc, .slice e1 a.cs.length g1, .slice e2 a.xs.length g2, .int .i64 a.am, .int .i64 a.fr, .int .i64 a.tt] : List Value).length = 12 := rfl
  have c6c : ([.string a.key, .int .i64 a.k, .int .i64 a.d, .int .u64 a.tk, .int .i64 a.c, .int .i64 a.st, .string a.loc, .slice e1 a.cs.length g1, .slice e2 a.xs.length g2, .int .i64 a.am, .int .i64 a.fr, .int .i64 a.tt] : List Value).all (·.oneCell') = true := rfl
  go_upto_region 4 with fail
  have HP := Lib.hid (putRec (W := w4) (e := 57) (zs := [.string ⟨#[]⟩, .int .i64 0, .int .i64 0, .int .u64 0, .int .i64 0, .int .i64 0, .string ⟨#[]⟩, .slice none 0 0, .slice none 0 0, .int .i64 0, .int .i64 0, .int .i64 0]) (cs := [.string a.key, .int .i64 a.k, .int .i64 a.d, .int .u64 a.tk, .int .i64 a.c, .int .i64 a.st, .string a.loc, .slice e1 a.cs.length g1, .slice e2 a.xs.length g2, .int .i64 a.am, .int .i64 a.fr, .int .i64 a.tt]) rfl)
  have hb := HP.out.2
  have HRX := Lib.hid HP.out.1
  have HNG : Hid (w.heap.size + 1 < w4.heap.size) := Lib.hid (block_lt HRB.out)
  clear HP tc c6n c6c
  replace HOC := Lib.hid (recs_below HOC.out hb)
  replace HOX := Lib.hid (recs_below HOX.out hb)
  replace HRA := Lib.hid ((hb.block _ (block_lt HRA.out)).trans HRA.out)
  replace HRB := Lib.hid ((hb.block _ (block_lt HRB.out)).trans HRB.out)
  replace HB := Lib.hid (HB.out.trans (hb.mono HB.out.size))
  clear hb
  generalize (w4.alloc (.cells #[.string ⟨#[]⟩, .int .i64 0, .int .i64 0, .int .u64 0, .int .i64 0, .int .i64 0, .string ⟨#[]⟩, .slice none 0 0, .slice none 0 0, .int .i64 0, .int .i64 0, .int .i64 0] 57 (0, 0))).setCells w4.heap.size 0 [.string a.key, .int .i64 a.k, .int .i64 a.d, .int .u64 a.tk, .int .i64 a.c, .int .i64 a.st, .string a.loc, .slice e1 a.cs.length g1, .slice e2 a.xs.length g2, .int .i64 a.am, .int .i64 a.fr, .int .i64 a.tt] = w5 at *
  generalize w4.heap.size = gx at *
  go_upto_region 6 with fail
  generalize (wrap64 (z.tmod 11 + 11)).tmod 11 = e
  have hbx := fun j => cell_of_row w5 (w.heap.size + 1) j _ _ _ HRB.out
  have hgx := fun j => cell_of_row w5 gx j _ _ _ HRX.out
  have hfz := fun j => frozen_of_row w5 gx j _ _ HRX.out
  rcases (by omega : e = 0 ∨ e = 1 ∨ e = 2 ∨ e = 3 ∨ e = 4 ∨ e = 5 ∨ e = 6 ∨ e = 7 ∨ e = 8 ∨ e = 9 ∨ (e ≠ 0 ∧ e ≠ 1 ∧ e ≠ 2 ∧ e ≠ 3 ∧ e ≠ 4 ∧ e ≠ 5 ∧ e ≠ 6 ∧ e ≠ 7 ∧ e ≠ 8 ∧ e ≠ 9)) with rfl | rfl | rfl | rfl | rfl | rfl | rfl | rfl | rfl | rfl | ⟨i0, i1, i2, i3, i4, i5, i6, i7, i8, i9⟩
  · go_upto_region 26 with fail
    clear hbx hgx hfz
    have hon := (Only.refl gx w5).setCell 0 (.string b.key)
    have hrx : (w5.setCell ⟨gx, 0, none⟩ (.string b.key)).heap[gx]? = _ := heap_setCell_same _ _ _ _ _ _ HRX.out
    replace HRA := Lib.hid ((hon.block _ (block_lt HRA.out) (by have := HNG.out; omega)).trans HRA.out)
    replace HOC := Lib.hid (recs_keep HOC.out (fun b hb hlt => hon.block b hlt (own_neT HOC.out HRX.out (by decide) b hb)))
    replace HOX := Lib.hid (recs_keep HOX.out (fun b hb hlt => hon.block b hlt (own_neT HOX.out HRX.out (by decide) b hb)))
    replace HB := Lib.hid (Only.below HB.out (by have := HNG.out; omega) HB.out.size hon)
    obtain ⟨Y, hY⟩ : ∃ Y : Rqt, Y = ({ a with key := b.key } : Rqt) := ⟨_, rfl⟩
    have HRY : Hid ((w5.setCell ⟨gx, 0, none⟩ (.string b.key)).heap[gx]? = some (.cells #[.string Y.key, .int .i64 Y.k, .int .i64 Y.d, .int .u64 Y.tk, .int .i64 Y.c, .int .i64 Y.st, .string Y.loc, .slice e1 a.cs.length g1, .slice e2 a.xs.length g2, .int .i64 Y.am, .int .i64 Y.fr, .int .i64 Y.tt] 57 (0, 0))) := Lib.hid (by rw [hY]; exact hrx)
    generalize (w5.setCell ⟨gx, 0, none⟩ (.string b.key)) = wt at *
    have HWY : Hid Y.wf := Lib.hid (by rw [hY]; exact ⟨HWB.out.key, HWA.out.loc, HWA.out.k, HWA.out.d, HWA.out.tk, HWA.out.c, HWA.out.st, HWA.out.am, HWA.out.fr, HWA.out.tt, HWA.out.cs, HWA.out.xs⟩)
    have HLC : Hid (LS Cpn.cells 6 wt (.slice e1 a.cs.length g1) Y.cs) := Lib.hid (by rw [hY]; exact LS.of_own HOC.out Cpn.cells_length (by decide))
    have HLX : Hid (LS Txx.cells 2 wt (.slice e2 a.xs.length g2) Y.xs) := Lib.hid (by rw [hY]; exact LS.of_own HOX.out Txx.cells_length (by decide))
    have HLN : Hid (Y.cs.length ≤ 40 ∧ Y.xs.length ≤ 40) := Lib.hid (by rw [hY]; exact ⟨HL1.out.1, HL1.out.2⟩)
    clear hY hrx hon HOC HOX HRB HRX
    obtain ⟨qy, hqy⟩ : ∃ t, Rq.rmayRq Y = t := ⟨_, rfl⟩
    have HM1 : Hid (∀ u, Below wt.heap.size wt u → Calls Tryz.prog 22 #[.agg #[.string Y.key, .int .i64 Y.k, .int .i64 Y.d, .int .u64 Y.tk, .int .i64 Y.c, .int .i64 Y.st, .string Y.loc, .slice e1 a.cs.length g1, .slice e2 a.xs.length g2, .int .i64 Y.am, .int .i64 Y.fr, .int .i64 Y.tt]] u fun e w' => e = .returned (.bool qy) ∧ Below u.heap.size u w') := Lib.hid (fun u hu => by have h := rqMayA_any Y HWY.out _ _ _ _ _ _ u (HLC.out.below hu) (HLX.out.below hu) (by have := HLN.out; omega) (by have := HLN.out; omega); rw [may_same, hqy] at h; exact h)
    have HM2 : Hid (∀ u, Below wt.heap.size wt u → Calls Tryz.prog 20 #[.agg #[.string Y.key, .int .i64 Y.k, .int .i64 Y.d, .int .u64 Y.tk, .int .i64 Y.c, .int .i64 Y.st, .string Y.loc, .slice e1 a.cs.length g1, .slice e2 a.xs.length g2, .int .i64 Y.am, .int .i64 Y.fr, .int .i64 Y.tt]] u fun e w' => e = .returned (.bool qy) ∧ Below u.heap.size u w') := Lib.hid (fun u hu => by have h := rMay16_any Y HWY.out _ _ _ _ _ _ u (HLC.out.below hu) (HLX.out.below hu); rw [hqy] at h; exact h)
    have HM3 : Hid (∀ u, Below wt.heap.size wt u → Calls Tryz.prog 22 #[.agg #[.string a.key, .int .i64 a.k, .int .i64 a.d, .int .u64 a.tk, .int .i64 a.c, .int .i64 a.st, .string a.loc, .slice p1 n1 z1, .slice p2 n2 z2, .int .i64 a.am, .int .i64 a.fr, .int .i64 a.tt]] u fun e w' => e = .returned (.bool true) ∧ Below u.heap.size u w') := Lib.hid (fun u hu => by have h := rqMayA_any a HWA.out p1 p2 n1 z1 n2 z2 u (HAC.out.below (HB.out.trans (hu.mono HB.out.size))) (HAX.out.below (HB.out.trans (hu.mono HB.out.size))) (by have := HL1.out; omega) (by have := HL1.out; omega); rw [may_same, HQM.out] at h; exact h)
    obtain ⟨o1, o2, on, oc, om, od, hoA, hoc, hox⟩ := only_form Y Y.k _ _ _ _ _ _ wt HLC.out HLX.out
    have HON := Lib.hid (fun (W : World) => hoA ▸ rOnly_any Y _ _ _ _ _ _ W)
    clear hoA
    obtain ⟨q7, hq7⟩ : ∃ t, eqRq Y (Rq.onlyX Y Y.k) = t := ⟨_, rfl⟩
    have HSM := Lib.hid (fun u (hu : Below wt.heap.size wt u) => rSame16_any Y (Rq.onlyX Y Y.k) _ _ o1 o2 _ _ _ _ on oc om od u (HLC.out.below hu) (HLX.out.below hu) (hoc _ hu) (hox _ hu) q7 (by rw [← hq7]; exact eqRq_iff Y _))
    have hq8 : qy = true → q7 = true := by intro h; rw [← hq7]; rw [h] at hqy; unfold Rq.rmayRq at hqy; simp only [Bool.and_eq_true] at hqy; exact hqy.2.2
    clear hqy hq7 hoc hox HAC HAX HBC HBX
    cases qy
    case true =>
      obtain rfl : q7 = true := hq8 rfl
      have HN1 := Lib.hid (fun (u : Later wt) => HM1.out u.val u.prop)
      have HN2 := Lib.hid (fun (u : Later wt) => HM2.out u.val u.prop)
      have HN3 := Lib.hid (fun (u : Later wt) => HM3.out u.val u.prop)
      have HNS := Lib.hid (fun (u : Later wt) => HSM.out u.val u.prop)
      have f1 := fun (u : Later wt) => (row_loT 12 (g := gx) ((u.prop.block _ (block_lt HRY.out)).trans HRY.out) rfl rfl).1
      have f2 := fun (u : Later wt) => (row_loT 12 (g := gx) ((u.prop.block _ (block_lt HRY.out)).trans HRY.out) rfl rfl).2
      have f3 := fun (u : Later wt) => (row_loT 12 (g := w.heap.size) ((u.prop.block _ (block_lt HRA.out)).trans HRA.out) rfl rfl).1
      have f4 := fun (u : Later wt) => (row_loT 12 (g := w.heap.size) ((u.prop.block _ (block_lt HRA.out)).trans HRA.out) rfl rfl).2
      refine wp_region_later (by kernel_rfl) (by kernel_rfl) ?_
      repeat (go_big_quiet_step (first | (go_at_call 22; first | (with_reducible exact later_call (HN1.out _)) | (with_reducible exact later_call (HN3.out _)) | exact later_call (HN1.out _) | exact later_call (HN3.out _)) | (go_at_call 20; exact later_call (HN2.out _)) | (go_at_call 24; exact later_call (HON.out _)) | (go_at_call 23; exact later_call (HNS.out _)) | (go_at_call 12; exact later_call (known16_any _))))
      refine wpQuiet_nil ?_
      rintro w8 ⟨u, rfl⟩
      clear f1 f2 f3 f4
      go_upto_region 28 with fail
      have wuu := u.prop
      have HW9 := Lib.hid wuu
      clear HN1 HN2 HN3 HNS
      replace HRY := Lib.hid ((wuu.block _ (block_lt HRY.out)).trans HRY.out)
      replace HRA := Lib.hid ((wuu.block _ (block_lt HRA.out)).trans HRA.out)
      replace HB := Lib.hid (HB.out.trans (wuu.mono HB.out.size))
      clear wuu
      generalize u.val = w9 at *
      have HN1 := Lib.hid (fun (v : Later w9) => HM1.out v.val (HW9.out.trans (v.prop.mono HW9.out.size)))
      have HN2 := Lib.hid (fun (v : Later w9) => HM2.out v.val (HW9.out.trans (v.prop.mono HW9.out.size)))
      have HN3 := Lib.hid (fun (v : Later w9) => HM3.out v.val (HW9.out.trans (v.prop.mono HW9.out.size)))
      have HNS := Lib.hid (fun (v : Later w9) => HSM.out v.val (HW9.out.trans (v.prop.mono HW9.out.size)))
      have f1 := fun (u : Later w9) => (row_loT 12 (g := gx) ((u.prop.block _ (block_lt HRY.out)).trans HRY.out) rfl rfl).1
      have f2 := fun (u : Later w9) => (row_loT 12 (g := gx) ((u.prop.block _ (block_lt HRY.out)).trans HRY.out) rfl rfl).2
      have f3 := fun (u : Later w9) => (row_loT 12 (g := w.heap.size) ((u.prop.block _ (block_lt HRA.out)).trans HRA.out) rfl rfl).1
      have f4 := fun (u : Later w9) => (row_loT 12 (g := w.heap.size) ((u.prop.block _ (block_lt HRA.out)).trans HRA.out) rfl rfl).2
      refine wp_region_later (by kernel_rfl) (by kernel_rfl) ?_
      repeat (go_big_quiet_step (first | (go_at_call 22; first | (with_reducible exact later_call (HN1.out _)) | (with_reducible exact later_call (HN3.out _)) | exact later_call (HN1.out _) | exact later_call (HN3.out _)) | (go_at_call 20; exact later_call (HN2.out _)) | (go_at_call 24; exact later_call (HON.out _)) | (go_at_call 23; exact later_call (HNS.out _)) | (go_at_call 12; exact later_call (known16_any _))))
      refine wpQuiet_nil ?_
      rintro w8 ⟨u', rfl⟩
      go_wp2
      go_ret
      exact ⟨rfl, HB.out.trans (u'.prop.mono HB.out.size)⟩
    case false =>
      have HN1 := Lib.hid (fun (u : Later wt) => HM1.out u.val u.prop)
      have HN2 := Lib.hid (fun (u : Later wt) => HM2.out u.val u.prop)
      have HN3 := Lib.hid (fun (u : Later wt) => HM3.out u.val u.prop)
      have HNS := Lib.hid (fun (u : Later wt) => HSM.out u.val u.prop)
      have f1 := fun (u : Later wt) => (row_loT 12 (g := gx) ((u.prop.block _ (block_lt HRY.out)).trans HRY.out) rfl rfl).1
      have f2 := fun (u : Later wt) => (row_loT 12 (g := gx) ((u.prop.block _ (block_lt HRY.out)).trans HRY.out) rfl rfl).2
      have f3 := fun (u : Later wt) => (row_loT 12 (g := w.heap.size) ((u.prop.block _ (block_lt HRA.out)).trans HRA.out) rfl rfl).1
      have f4 := fun (u : Later wt) => (row_loT 12 (g := w.heap.size) ((u.prop.block _ (block_lt HRA.out)).trans HRA.out) rfl rfl).2
      refine wp_region_later (by kernel_rfl) (by kernel_rfl) ?_
      repeat (go_big_quiet_step (first | (go_at_call 22; first | (with_reducible exact later_call (HN1.out _)) | (with_reducible exact later_call (HN3.out _)) | exact later_call (HN1.out _) | exact later_call (HN3.out _)) | (go_at_call 20; exact later_call (HN2.out _)) | (go_at_call 24; exact later_call (HON.out _)) | (go_at_call 23; exact later_call (HNS.out _)) | (go_at_call 12; exact later_call (known16_any _))))
      refine wpQuiet_nil ?_
      rintro w8 ⟨u, rfl⟩
      clear f1 f2 f3 f4
      go_upto_region 28 with fail
      have wuu := u.prop
      have HW9 := Lib.hid wuu
      clear HN1 HN2 HN3 HNS
      replace HRY := Lib.hid ((wuu.block _ (block_lt HRY.out)).trans HRY.out)
      replace HRA := Lib.hid ((wuu.block _ (block_lt HRA.out)).trans HRA.out)
      replace HB := Lib.hid (HB.out.trans (wuu.mono HB.out.size))
      clear wuu
      generalize u.val = w9 at *
      have HN1 := Lib.hid (fun (v : Later w9) => HM1.out v.val (HW9.out.trans (v.prop.mono HW9.out.size)))
      have HN2 := Lib.hid (fun (v : Later w9) => HM2.out v.val (HW9.out.trans (v.prop.mono HW9.out.size)))
      have HN3 := Lib.hid (fun (v : Later w9) => HM3.out v.val (HW9.out.trans (v.prop.mono HW9.out.size)))
      have HNS := Lib.hid (fun (v : Later w9) => HSM.out v.val (HW9.out.trans (v.prop.mono HW9.out.size)))
      have f1 := fun (u : Later w9) => (row_loT 12 (g := gx) ((u.prop.block _ (block_lt HRY.out)).trans HRY.out) rfl rfl).1
      have f2 := fun (u : Later w9) => (row_loT 12 (g := gx) ((u.prop.block _ (block_lt HRY.out)).trans HRY.out) rfl rfl).2
      have f3 := fun (u : Later w9) => (row_loT 12 (g := w.heap.size) ((u.prop.block _ (block_lt HRA.out)).trans HRA.out) rfl rfl).1
      have f4 := fun (u : Later w9) => (row_loT 12 (g := w.heap.size) ((u.prop.block _ (block_lt HRA.out)).trans HRA.out) rfl rfl).2
      refine wp_region_later (by kernel_rfl) (by kernel_rfl) ?_
      repeat (go_big_quiet_step (first | (go_at_call 22; first | (with_reducible exact later_call (HN1.out _)) | (with_reducible exact later_call (HN3.out _)) | exact later_call (HN1.out _) | exact later_call (HN3.out _)) | (go_at_call 20; exact later_call (HN2.out _)) | (go_at_call 24; exact later_call (HON.out _)) | (go_at_call 23; exact later_call (HNS.out _)) | (go_at_call 12; exact later_call (known16_any _))))
      refine wpQuiet_nil ?_
      rintro w8 ⟨u', rfl⟩
      go_wp2
      go_ret
      exact ⟨rfl, HB.out.trans (u'.prop.mono HB.out.size)⟩
  · go_upto_region 26 with fail
    clear hbx hgx hfz
    have hon := (Only.refl gx w5).setCell 2 (.int .i64 b.d)
    have hrx : (w5.setCell ⟨gx, 2, none⟩ (.int .i64 b.d)).heap[gx]? = _ := heap_setCell_same _ _ _ _ _ _ HRX.out
    replace HRA := Lib.hid ((hon.block _ (block_lt HRA.out) (by have := HNG.out; omega)).trans HRA.out)
    replace HOC := Lib.hid (recs_keep HOC.out (fun b hb hlt => hon.block b hlt (own_neT HOC.out HRX.out (by decide) b hb)))
    replace HOX := Lib.hid (recs_keep HOX.out (fun b hb hlt => hon.block b hlt (own_neT HOX.out HRX.out (by decide) b hb)))
    replace HB := Lib.hid (Only.below HB.out (by have := HNG.out; omega) HB.out.size hon)
    obtain ⟨Y, hY⟩ : ∃ Y : Rqt, Y = ({ a with d := b.d } : Rqt) := ⟨_, rfl⟩
    have HRY : Hid ((w5.setCell ⟨gx, 2, none⟩ (.int .i64 b.d)).heap[gx]? = some (.cells #[.string Y.key, .int .i64 Y.k, .int .i64 Y.d, .int .u64 Y.tk, .int .i64 Y.c, .int .i64 Y.st, .string Y.loc, .slice e1 a.cs.length g1, .slice e2 a.xs.length g2, .int .i64 Y.am, .int .i64 Y.fr, .int .i64 Y.tt] 57 (0, 0))) := Lib.hid (by rw [hY]; exact hrx)
    generalize (w5.setCell ⟨gx, 2, none⟩ (.int .i64 b.d)) = wt at *
    have HWY : Hid Y.wf := Lib.hid (by rw [hY]; exact ⟨HWA.out.key, HWA.out.loc, HWA.out.k, HWB.out.d, HWA.out.tk, HWA.out.c, HWA.out.st, HWA.out.am, HWA.out.fr, HWA.out.tt, HWA.out.cs, HWA.out.xs⟩)
    have HLC : Hid (LS Cpn.cells 6 wt (.slice e1 a.cs.length g1) Y.cs) := Lib.hid (by rw [hY]; exact LS.of_own HOC.out Cpn.cells_length (by decide))
    have HLX : Hid (LS Txx.cells 2 wt (.slice e2 a.xs.length g2) Y.xs) := Lib.hid (by rw [hY]; exact LS.of_own HOX.out Txx.cells_length (by decide))
    have HLN : Hid (Y.cs.length ≤ 40 ∧ Y.xs.length ≤ 40) := Lib.hid (by rw [hY]; exact ⟨HL1.out.1, HL1.out.2⟩)
    clear hY hrx hon HOC HOX HRB HRX
    obtain ⟨qy, hqy⟩ : ∃ t, Rq.rmayRq Y = t := ⟨_, rfl⟩
    have HM1 : Hid (∀ u, Below wt.heap.size wt u → Calls Tryz.prog 22 #[.agg #[.string Y.key, .int .i64 Y.k, .int .i64 Y.d, .int .u64 Y.tk, .int .i64 Y.c, .int .i64 Y.st, .string Y.loc, .slice e1 a.cs.length g1, .slice e2 a.xs.length g2, .int .i64 Y.am, .int .i64 Y.fr, .int .i64 Y.tt]] u fun e w' => e = .returned (.bool qy) ∧ Below u.heap.size u w') := Lib.hid (fun u hu => by have h := rqMayA_any Y HWY.out _ _ _ _ _ _ u (HLC.out.below hu) (HLX.out.below hu) (by have := HLN.out; omega) (by have := HLN.out; omega); rw [may_same, hqy] at h; exact h)
    have HM2 : Hid (∀ u, Below wt.heap.size wt u → Calls Tryz.prog 20 #[.agg #[.string Y.key, .int .i64 Y.k, .int .i64 Y.d, .int .u64 Y.tk, .int .i64 Y.c, .int .i64 Y.st, .string Y.loc, .slice e1 a.cs.length g1, .slice e2 a.xs.length g2, .int .i64 Y.am, .int .i64 Y.fr, .int .i64 Y.tt]] u fun e w' => e = .returned (.bool qy) ∧ Below u.heap.size u w') := Lib.hid (fun u hu => by have h := rMay16_any Y HWY.out _ _ _ _ _ _ u (HLC.out.below hu) (HLX.out.below hu); rw [hqy] at h; exact h)
    have HM3 : Hid (∀ u, Below wt.heap.size wt u → Calls Tryz.prog 22 #[.agg #[.string a.key, .int .i64 a.k, .int .i64 a.d, .int .u64 a.tk, .int .i64 a.c, .int .i64 a.st, .string a.loc, .slice p1 n1 z1, .slice p2 n2 z2, .int .i64 a.am, .int .i64 a.fr, .int .i64 a.tt]] u fun e w' => e = .returned (.bool true) ∧ Below u.heap.size u w') := Lib.hid (fun u hu => by have h := rqMayA_any a HWA.out p1 p2 n1 z1 n2 z2 u (HAC.out.below (HB.out.trans (hu.mono HB.out.size))) (HAX.out.below (HB.out.trans (hu.mono HB.out.size))) (by have := HL1.out; omega) (by have := HL1.out; omega); rw [may_same, HQM.out] at h; exact h)
    obtain ⟨o1, o2, on, oc, om, od, hoA, hoc, hox⟩ := only_form Y Y.k _ _ _ _ _ _ wt HLC.out HLX.out
    have HON := Lib.hid (fun (W : World) => hoA ▸ rOnly_any Y _ _ _ _ _ _ W)
    clear hoA
    obtain ⟨q7, hq7⟩ : ∃ t, eqRq Y (Rq.onlyX Y Y.k) = t := ⟨_, rfl⟩
    have HSM := Lib.hid (fun u (hu : Below wt.heap.size wt u) => rSame16_any Y (Rq.onlyX Y Y.k) _ _ o1 o2 _ _ _ _ on oc om od u (HLC.out.below hu) (HLX.out.below hu) (hoc _ hu) (hox _ hu) q7 (by rw [← hq7]; exact eqRq_iff Y _))
    have hq8 : qy = true → q7 = true := by intro h; rw [← hq7]; rw [h] at hqy; unfold Rq.rmayRq at hqy; simp only [Bool.and_eq_true] at hqy; exact hqy.2.2
    clear hqy hq7 hoc hox HAC HAX HBC HBX
    cases qy
    case true =>
      obtain rfl : q7 = true := hq8 rfl
      have HN1 := Lib.hid (fun (u : Later wt) => HM1.out u.val u.prop)
      have HN2 := Lib.hid (fun (u : Later wt) => HM2.out u.val u.prop)
      have HN3 := Lib.hid (fun (u : Later wt) => HM3.out u.val u.prop)
      have HNS := Lib.hid (fun (u : Later wt) => HSM.out u.val u.prop)
      have f1 := fun (u : Later wt) => (row_loT 12 (g := gx) ((u.prop.block _ (block_lt HRY.out)).trans HRY.out) rfl rfl).1
      have f2 := fun (u : Later wt) => (row_loT 12 (g := gx) ((u.prop.block _ (block_lt HRY.out)).trans HRY.out) rfl rfl).2
      have f3 := fun (u : Later wt) => (row_loT 12 (g := w.heap.size) ((u.prop.block _ (block_lt HRA.out)).trans HRA.out) rfl rfl).1
      have f4 := fun (u : Later wt) => (row_loT 12 (g := w.heap.size) ((u.prop.block _ (block_lt HRA.out)).trans HRA.out) rfl rfl).2
      refine wp_region_later (by kernel_rfl) (by kernel_rfl) ?_
      repeat (go_big_quiet_step (first | (go_at_call 22; first | (with_reducible exact later_call (HN1.out _)) | (with_reducible exact later_call (HN3.out _)) | exact later_call (HN1.out _) | exact later_call (HN3.out _)) | (go_at_call 20; exact later_call (HN2.out _)) | (go_at_call 24; exact later_call (HON.out _)) | (go_at_call 23; exact later_call (HNS.out _)) | (go_at_call 12; exact later_call (known16_any _))))
      refine wpQuiet_nil ?_
      rintro w8 ⟨u, rfl⟩
      clear f1 f2 f3 f4
      go_upto_region 28 with fail
      have wuu := u.prop
      have HW9 := Lib.hid wuu
      clear HN1 HN2 HN3 HNS
      replace HRY := Lib.hid ((wuu.block _ (block_lt HRY.out)).trans HRY.out)
      replace HRA := Lib.hid ((wuu.block _ (block_lt HRA.out)).trans HRA.out)
      replace HB := Lib.hid (HB.out.trans (wuu.mono HB.out.size))
      clear wuu
      generalize u.val = w9 at *
      have HN1 := Lib.hid (fun (v : Later w9) => HM1.out v.val (HW9.out.trans (v.prop.mono HW9.out.size)))
      have HN2 := Lib.hid (fun (v : Later w9) => HM2.out v.val (HW9.out.trans (v.prop.mono HW9.out.size)))
      have HN3 := Lib.hid (fun (v : Later w9) => HM3.out v.val (HW9.out.trans (v.prop.mono HW9.out.size)))
      have HNS := Lib.hid (fun (v : Later w9) => HSM.out v.val (HW9.out.trans (v.prop.mono HW9.out.size)))
      have f1 := fun (u : Later w9) => (row_loT 12 (g := gx) ((u.prop.block _ (block_lt HRY.out)).trans HRY.out) rfl rfl).1
      have f2 := fun (u : Later w9) => (row_loT 12 (g := gx) ((u.prop.block _ (block_lt HRY.out)).trans HRY.out) rfl rfl).2
      have f3 := fun (u : Later w9) => (row_loT 12 (g := w.heap.size) ((u.prop.block _ (block_lt HRA.out)).trans HRA.out) rfl rfl).1
      have f4 := fun (u : Later w9) => (row_loT 12 (g := w.heap.size) ((u.prop.block _ (block_lt HRA.out)).trans HRA.out) rfl rfl).2
      refine wp_region_later (by kernel_rfl) (by kernel_rfl) ?_
      repeat (go_big_quiet_step (first | (go_at_call 22; first | (with_reducible exact later_call (HN1.out _)) | (with_reducible exact later_call (HN3.out _)) | exact later_call (HN1.out _) | exact later_call (HN3.out _)) | (go_at_call 20; exact later_call (HN2.out _)) | (go_at_call 24; exact later_call (HON.out _)) | (go_at_call 23; exact later_call (HNS.out _)) | (go_at_call 12; exact later_call (known16_any _))))
      refine wpQuiet_nil ?_
      rintro w8 ⟨u', rfl⟩
      go_wp2
      go_ret
      exact ⟨rfl, HB.out.trans (u'.prop.mono HB.out.size)⟩
    case false =>
      have HN1 := Lib.hid (fun (u : Later wt) => HM1.out u.val u.prop)
      have HN2 := Lib.hid (fun (u : Later wt) => HM2.out u.val u.prop)
      have HN3 := Lib.hid (fun (u : Later wt) => HM3.out u.val u.prop)
      have HNS := Lib.hid (fun (u : Later wt) => HSM.out u.val u.prop)
      have f1 := fun (u : Later wt) => (row_loT 12 (g := gx) ((u.prop.block _ (block_lt HRY.out)).trans HRY.out) rfl rfl).1
      have f2 := fun (u : Later wt) => (row_loT 12 (g := gx) ((u.prop.block _ (block_lt HRY.out)).trans HRY.out) rfl rfl).2
      have f3 := fun (u : Later wt) => (row_loT 12 (g := w.heap.size) ((u.prop.block _ (block_lt HRA.out)).trans HRA.out) rfl rfl).1
      have f4 := fun (u : Later wt) => (row_loT 12 (g := w.heap.size) ((u.prop.block _ (block_lt HRA.out)).trans HRA.out) rfl rfl).2
      refine wp_region_later (by kernel_rfl) (by kernel_rfl) ?_
      repeat (go_big_quiet_step (first | (go_at_call 22; first | (with_reducible exact later_call (HN1.out _)) | (with_reducible exact later_call (HN3.out _)) | exact later_call (HN1.out _) | exact later_call (HN3.out _)) | (go_at_call 20; exact later_call (HN2.out _)) | (go_at_call 24; exact later_call (HON.out _)) | (go_at_call 23; exact later_call (HNS.out _)) | (go_at_call 12; exact later_call (known16_any _))))
      refine wpQuiet_nil ?_
      rintro w8 ⟨u, rfl⟩
      clear f1 f2 f3 f4
      go_upto_region 28 with fail
      have wuu := u.prop
      have HW9 := Lib.hid wuu
      clear HN1 HN2 HN3 HNS
      replace HRY := Lib.hid ((wuu.block _ (block_lt HRY.out)).trans HRY.out)
      replace HRA := Lib.hid ((wuu.block _ (block_lt HRA.out)).trans HRA.out)
      replace HB := Lib.hid (HB.out.trans (wuu.mono HB.out.size))
      clear wuu
      generalize u.val = w9 at *
      have HN1 := Lib.hid (fun (v : Later w9) => HM1.out v.val (HW9.out.trans (v.prop.mono HW9.out.size)))
      have HN2 := Lib.hid (fun (v : Later w9) => HM2.out v.val (HW9.out.trans (v.prop.mono HW9.out.size)))
      have HN3 := Lib.hid (fun (v : Later w9) => HM3.out v.val (HW9.out.trans (v.prop.mono HW9.out.size)))
      have HNS := Lib.hid (fun (v : Later w9) => HSM.out v.val (HW9.out.trans (v.prop.mono HW9.out.size)))
      have f1 := fun (u : Later w9) => (row_loT 12 (g := gx) ((u.prop.block _ (block_lt HRY.out)).trans HRY.out) rfl rfl).1
      have f2 := fun (u : Later w9) => (row_loT 12 (g := gx) ((u.prop.block _ (block_lt HRY.out)).trans HRY.out) rfl rfl).2
      have f3 := fun (u : Later w9) => (row_loT 12 (g := w.heap.size) ((u.prop.block _ (block_lt HRA.out)).trans HRA.out) rfl rfl).1
      have f4 := fun (u : Later w9) => (row_loT 12 (g := w.heap.size) ((u.prop.block _ (block_lt HRA.out)).trans HRA.out) rfl rfl).2
      refine wp_region_later (by kernel_rfl) (by kernel_rfl) ?_
      repeat (go_big_quiet_step (first | (go_at_call 22; first | (with_reducible exact later_call (HN1.out _)) | (with_reducible exact later_call (HN3.out _)) | exact later_call (HN1.out _) | exact later_call (HN3.out _)) | (go_at_call 20; exact later_call (HN2.out _)) | (go_at_call 24; exact later_call (HON.out _)) | (go_at_call 23; exact later_call (HNS.out _)) | (go_at_call 12; exact later_call (known16_any _))))
      refine wpQuiet_nil ?_
      rintro w8 ⟨u', rfl⟩
      go_wp2
      go_ret
      exact ⟨rfl, HB.out.trans (u'.prop.mono HB.out.size)⟩
  · go_upto_region 26 with fail
    clear hbx hgx hfz
    have hon := (Only.refl gx w5).setCell 3 (.int .u64 b.tk)
    have hrx : (w5.setCell ⟨gx, 3, none⟩ (.int .u64 b.tk)).heap[gx]? = _ := heap_setCell_same _ _ _ _ _ _ HRX.out
    replace HRA := Lib.hid ((hon.block _ (block_lt HRA.out) (by have := HNG.out; omega)).trans HRA.out)
    replace HOC := Lib.hid (recs_keep HOC.out (fun b hb hlt => hon.block b hlt (own_neT HOC.out HRX.out (by decide) b hb)))
    replace HOX := Lib.hid (recs_keep HOX.out (fun b hb hlt => hon.block b hlt (own_neT HOX.out HRX.out (by decide) b hb)))
    replace HB := Lib.hid (Only.below HB.out (by have := HNG.out; omega) HB.out.size hon)
    obtain ⟨Y, hY⟩ : ∃ Y : Rqt, Y = ({ a with tk := b.tk } : Rqt) := ⟨_, rfl⟩
    have HRY : Hid ((w5.setCell ⟨gx, 3, none⟩ (.int .u64 b.tk)).heap[gx]? = some (.cells #[.string Y.key, .int .i64 Y.k, .int .i64 Y.d, .int .u64 Y.tk, .int .i64 Y.c, .int .i64 Y.st, .string Y.loc, .slice e1 a.cs.length g1, .slice e2 a.xs.length g2, .int .i64 Y.am, .int .i64 Y.fr, .int .i64 Y.tt] 57 (0, 0))) := Lib.hid (by rw [hY]; exact hrx)
    generalize (w5.setCell ⟨gx, 3, none⟩ (.int .u64 b.tk)) = wt at *
    have HWY : Hid Y.wf := Lib.hid (by rw [hY]; exact ⟨HWA.out.key, HWA.out.loc, HWA.out.k, HWA.out.d, HWB.out.tk, HWA.out.c, HWA.out.st, HWA.out.am, HWA.out.fr, HWA.out.tt, HWA.out.cs, HWA.out.xs⟩)
    have HLC : Hid (LS Cpn.cells 6 wt (.slice e1 a.cs.length g1) Y.cs) := Lib.hid (by rw [hY]; exact LS.of_own HOC.out Cpn.cells_length (by decide))
    have HLX : Hid (LS Txx.cells 2 wt (.slice e2 a.xs.length g2) Y.xs) := Lib.hid (by rw [hY]; exact LS.of_own HOX.out Txx.cells_length (by decide))
    have HLN : Hid (Y.cs.length ≤ 40 ∧ Y.xs.length ≤ 40) := Lib.hid (by rw [hY]; exact ⟨HL1.out.1, HL1.out.2⟩)
    clear hY hrx hon HOC HOX HRB HRX
    obtain ⟨qy, hqy⟩ : ∃ t, Rq.rmayRq Y = t := ⟨_, rfl⟩
    have HM1 : Hid (∀ u, Below wt.heap.size wt u → Calls Tryz.prog 22 #[.agg #[.string Y.key, .int .i64 Y.k, .int .i64 Y.d, .int .u64 Y.tk, .int .i64 Y.c, .int .i64 Y.st, .string Y.loc, .slice e1 a.cs.length g1, .slice e2 a.xs.length g2, .int .i64 Y.am, .int .i64 Y.fr, .int .i64 Y.tt]] u fun e w' => e = .returned (.bool qy) ∧ Below u.heap.size u w') := Lib.hid (fun u hu => by have h := rqMayA_any Y HWY.out _ _ _ _ _ _ u (HLC.out.below hu) (HLX.out.below hu) (by have := HLN.out; omega) (by have := HLN.out; omega); rw [may_same, hqy] at h; exact h)
    have HM2 : Hid (∀ u, Below wt.heap.size wt u → Calls Tryz.prog 20 #[.agg #[.string Y.key, .int .i64 Y.k, .int .i64 Y.d, .int .u64 Y.tk, .int .i64 Y.c, .int .i64 Y.st, .string Y.loc, .slice e1 a.cs.length g1, .slice e2 a.xs.length g2, .int .i64 Y.am, .int .i64 Y.fr, .int .i64 Y.tt]] u fun e w' => e = .returned (.bool qy) ∧ Below u.heap.size u w') := Lib.hid (fun u hu => by have h := rMay16_any Y HWY.out _ _ _ _ _ _ u (HLC.out.below hu) (HLX.out.below hu); rw [hqy] at h; exact h)
    have HM3 : Hid (∀ u, Below wt.heap.size wt u → Calls Tryz.prog 22 #[.agg #[.string a.key, .int .i64 a.k, .int .i64 a.d, .int .u64 a.tk, .int .i64 a.c, .int .i64 a.st, .string a.loc, .slice p1 n1 z1, .slice p2 n2 z2, .int .i64 a.am, .int .i64 a.fr, .int .i64 a.tt]] u fun e w' => e = .returned (.bool true) ∧ Below u.heap.size u w') := Lib.hid (fun u hu => by have h := rqMayA_any a HWA.out p1 p2 n1 z1 n2 z2 u (HAC.out.below (HB.out.trans (hu.mono HB.out.size))) (HAX.out.below (HB.out.trans (hu.mono HB.out.size))) (by have := HL1.out; omega) (by have := HL1.out; omega); rw [may_same, HQM.out] at h; exact h)
    obtain ⟨o1, o2, on, oc, om, od, hoA, hoc, hox⟩ := only_form Y Y.k _ _ _ _ _ _ wt HLC.out HLX.out
    have HON := Lib.hid (fun (W : World) => hoA ▸ rOnly_any Y _ _ _ _ _ _ W)
    clear hoA
    obtain ⟨q7, hq7⟩ : ∃ t, eqRq Y (Rq.onlyX Y Y.k) = t := ⟨_, rfl⟩
    have HSM := Lib.hid (fun u (hu : Below wt.heap.size wt u) => rSame16_any Y (Rq.onlyX Y Y.k) _ _ o1 o2 _ _ _ _ on oc om od u (HLC.out.below hu) (HLX.out.below hu) (hoc _ hu) (hox _ hu) q7 (by rw [← hq7]; exact eqRq_iff Y _))
    have hq8 : qy = true → q7 = true := by intro h; rw [← hq7]; rw [h] at hqy; unfold Rq.rmayRq at hqy; simp only [Bool.and_eq_true] at hqy; exact hqy.2.2
    clear hqy hq7 hoc hox HAC HAX HBC HBX
    cases qy
    case true =>
      obtain rfl : q7 = true := hq8 rfl
      have HN1 := Lib.hid (fun (u : Later wt) => HM1.out u.val u.prop)
      have HN2 := Lib.hid (fun (u : Later wt) => HM2.out u.val u.prop)
      have HN3 := Lib.hid (fun (u : Later wt) => HM3.out u.val u.prop)
      have HNS := Lib.hid (fun (u : Later wt) => HSM.out u.val u.prop)
      have f1 := fun (u : Later wt) => (row_loT 12 (g := gx) ((u.prop.block _ (block_lt HRY.out)).trans HRY.out) rfl rfl).1
      have f2 := fun (u : Later wt) => (row_loT 12 (g := gx) ((u.prop.block _ (block_lt HRY.out)).trans HRY.out) rfl rfl).2
      have f3 := fun (u : Later wt) => (row_loT 12 (g := w.heap.size) ((u.prop.block _ (block_lt HRA.out)).trans HRA.out) rfl rfl).1
      have f4 := fun (u : Later wt) => (row_loT 12 (g := w.heap.size) ((u.prop.block _ (block_lt HRA.out)).trans HRA.out) rfl rfl).2
      refine wp_region_later (by kernel_rfl) (by kernel_rfl) ?_
      repeat (go_big_quiet_step (first | (go_at_call 22; first | (with_reducible exact later_call (HN1.out _)) | (with_reducible exact later_call (HN3.out _)) | exact later_call (HN1.out _) | exact later_call (HN3.out _)) | (go_at_call 20; exact later_call (HN2.out _)) | (go_at_call 24; exact later_call (HON.out _)) | (go_at_call 23; exact later_call (HNS.out _)) | (go_at_call 12; exact later_call (known16_any _))))
      refine wpQuiet_nil ?_
      rintro w8 ⟨u, rfl⟩
      clear f1 f2 f3 f4
      go_upto_region 28 with fail
      have wuu := u.prop
      have HW9 := Lib.hid wuu
      clear HN1 HN2 HN3 HNS
      replace HRY := Lib.hid ((wuu.block _ (block_lt HRY.out)).trans HRY.out)
      replace HRA := Lib.hid ((wuu.block _ (block_lt HRA.out)).trans HRA.out)
      replace HB := Lib.hid (HB.out.trans (wuu.mono HB.out.size))
      clear wuu
      generalize u.val = w9 at *
      have HN1 := Lib.hid (fun (v : Later w9) => HM1.out v.val (HW9.out.trans (v.prop.mono HW9.out.size)))
      have HN2 := Lib.hid (fun (v : Later w9) => HM2.out v.val (HW9.out.trans (v.prop.mono HW9.out.size)))
      have HN3 := Lib.hid (fun (v : Later w9) => HM3.out v.val (HW9.out.trans (v.prop.mono HW9.out.size)))
      have HNS := Lib.hid (fun (v : Later w9) => HSM.out v.val (HW9.out.trans (v.prop.mono HW9.out.size)))
      have f1 := fun (u : Later w9) => (row_loT 12 (g := gx) ((u.prop.block _ (block_lt HRY.out)).trans HRY.out) rfl rfl).1
      have f2 := fun (u : Later w9) => (row_loT 12 (g := gx) ((u.prop.block _ (block_lt HRY.out)).trans HRY.out) rfl rfl).2
      have f3 := fun (u : Later w9) => (row_loT 12 (g := w.heap.size) ((u.prop.block _ (block_lt HRA.out)).trans HRA.out) rfl rfl).1
      have f4 := fun (u : Later w9) => (row_loT 12 (g := w.heap.size) ((u.prop.block _ (block_lt HRA.out)).trans HRA.out) rfl rfl).2
      refine wp_region_later (by kernel_rfl) (by kernel_rfl) ?_
      repeat (go_big_quiet_step (first | (go_at_call 22; first | (with_reducible exact later_call (HN1.out _)) | (with_reducible exact later_call (HN3.out _)) | exact later_call (HN1.out _) | exact later_call (HN3.out _)) | (go_at_call 20; exact later_call (HN2.out _)) | (go_at_call 24; exact later_call (HON.out _)) | (go_at_call 23; exact later_call (HNS.out _)) | (go_at_call 12; exact later_call (known16_any _))))
      refine wpQuiet_nil ?_
      rintro w8 ⟨u', rfl⟩
      go_wp2
      go_ret
      exact ⟨rfl, HB.out.trans (u'.prop.mono HB.out.size)⟩
    case false =>
      have HN1 := Lib.hid (fun (u : Later wt) => HM1.out u.val u.prop)
      have HN2 := Lib.hid (fun (u : Later wt) => HM2.out u.val u.prop)
      have HN3 := Lib.hid (fun (u : Later wt) => HM3.out u.val u.prop)
      have HNS := Lib.hid (fun (u : Later wt) => HSM.out u.val u.prop)
      have f1 := fun (u : Later wt) => (row_loT 12 (g := gx) ((u.prop.block _ (block_lt HRY.out)).trans HRY.out) rfl rfl).1
      have f2 := fun (u : Later wt) => (row_loT 12 (g := gx) ((u.prop.block _ (block_lt HRY.out)).trans HRY.out) rfl rfl).2
      have f3 := fun (u : Later wt) => (row_loT 12 (g := w.heap.size) ((u.prop.block _ (block_lt HRA.out)).trans HRA.out) rfl rfl).1
      have f4 := fun (u : Later wt) => (row_loT 12 (g := w.heap.size) ((u.prop.block _ (block_lt HRA.out)).trans HRA.out) rfl rfl).2
      refine wp_region_later (by kernel_rfl) (by kernel_rfl) ?_
      repeat (go_big_quiet_step (first | (go_at_call 22; first | (with_reducible exact later_call (HN1.out _)) | (with_reducible exact later_call (HN3.out _)) | exact later_call (HN1.out _) | exact later_call (HN3.out _)) | (go_at_call 20; exact later_call (HN2.out _)) | (go_at_call 24; exact later_call (HON.out _)) | (go_at_call 23; exact later_call (HNS.out _)) | (go_at_call 12; exact later_call (known16_any _))))
      refine wpQuiet_nil ?_
      rintro w8 ⟨u, rfl⟩
      clear f1 f2 f3 f4
      go_upto_region 28 with fail
      have wuu := u.prop
      have HW9 := Lib.hid wuu
      clear HN1 HN2 HN3 HNS
      replace HRY := Lib.hid ((wuu.block _ (block_lt HRY.out)).trans HRY.out)
      replace HRA := Lib.hid ((wuu.block _ (block_lt HRA.out)).trans HRA.out)
      replace HB := Lib.hid (HB.out.trans (wuu.mono HB.out.size))
      clear wuu
      generalize u.val = w9 at *
      have HN1 := Lib.hid (fun (v : Later w9) => HM1.out v.val (HW9.out.trans (v.prop.mono HW9.out.size)))
      have HN2 := Lib.hid (fun (v : Later w9) => HM2.out v.val (HW9.out.trans (v.prop.mono HW9.out.size)))
      have HN3 := Lib.hid (fun (v : Later w9) => HM3.out v.val (HW9.out.trans (v.prop.mono HW9.out.size)))
      have HNS := Lib.hid (fun (v : Later w9) => HSM.out v.val (HW9.out.trans (v.prop.mono HW9.out.size)))
      have f1 := fun (u : Later w9) => (row_loT 12 (g := gx) ((u.prop.block _ (block_lt HRY.out)).trans HRY.out) rfl rfl).1
      have f2 := fun (u : Later w9) => (row_loT 12 (g := gx) ((u.prop.block _ (block_lt HRY.out)).trans HRY.out) rfl rfl).2
      have f3 := fun (u : Later w9) => (row_loT 12 (g := w.heap.size) ((u.prop.block _ (block_lt HRA.out)).trans HRA.out) rfl rfl).1
      have f4 := fun (u : Later w9) => (row_loT 12 (g := w.heap.size) ((u.prop.block _ (block_lt HRA.out)).trans HRA.out) rfl rfl).2
      refine wp_region_later (by kernel_rfl) (by kernel_rfl) ?_
      repeat (go_big_quiet_step (first | (go_at_call 22; first | (with_reducible exact later_call (HN1.out _)) | (with_reducible exact later_call (HN3.out _)) | exact later_call (HN1.out _) | exact later_call (HN3.out _)) | (go_at_call 20; exact later_call (HN2.out _)) | (go_at_call 24; exact later_call (HON.out _)) | (go_at_call 23; exact later_call (HNS.out _)) | (go_at_call 12; exact later_call (known16_any _))))
      refine wpQuiet_nil ?_
      rintro w8 ⟨u', rfl⟩
      go_wp2
      go_ret
      exact ⟨rfl, HB.out.trans (u'.prop.mono HB.out.size)⟩
  · go_upto_region 26 with fail
    clear hbx hgx hfz
    have hon := (Only.refl gx w5).setCell 4 (.int .i64 b.c)
    have hrx : (w5.setCell ⟨gx, 4, none⟩ (.int .i64 b.c)).heap[gx]? = _ := heap_setCell_same _ _ _ _ _ _ HRX.out
    replace HRA := Lib.hid ((hon.block _ (block_lt HRA.out) (by have := HNG.out; omega)).trans HRA.out)
    replace HOC := Lib.hid (recs_keep HOC.out (fun b hb hlt => hon.block b hlt (own_neT HOC.out HRX.out (by decide) b hb)))
    replace HOX := Lib.hid (recs_keep HOX.out (fun b hb hlt => hon.block b hlt (own_neT HOX.out HRX.out (by decide) b hb)))
    replace HB := Lib.hid (Only.below HB.out (by have := HNG.out; omega) HB.out.size hon)
    obtain ⟨Y, hY⟩ : ∃ Y : Rqt, Y = ({ a with c := b.c } : Rqt) := ⟨_, rfl⟩
    have HRY : Hid ((w5.setCell ⟨gx, 4, none⟩ (.int .i64 b.c)).heap[gx]? = some (.cells #[.string Y.key, .int .i64 Y.k, .int .i64 Y.d, .int .u64 Y.tk, .int .i64 Y.c, .int .i64 Y.st, .string Y.loc, .slice e1 a.cs.length g1, .slice e2 a.xs.length g2, .int .i64 Y.am, .int .i64 Y.fr, .int .i64 Y.tt] 57 (0, 0))) := Lib.hid (by rw [hY]; exact hrx)
    generalize (w5.setCell ⟨gx, 4, none⟩ (.int .i64 b.c)) = wt at *
    have HWY : Hid Y.wf := Lib.hid (by rw [hY]; exact ⟨HWA.out.key, HWA.out.loc, HWA.out.k, HWA.out.d, HWA.out.tk, HWB.out.c, HWA.out.st, HWA.out.am, HWA.out.fr, HWA.out.tt, HWA.out.cs, HWA.out.xs⟩)
    have HLC : Hid (LS Cpn.cells 6 wt (.slice e1 a.cs.length g1) Y.cs) := Lib.hid (by rw [hY]; exact LS.of_own HOC.out Cpn.cells_length (by decide))
    have HLX : Hid (LS Txx.cells 2 wt (.slice e2 a.xs.length g2) Y.xs) := Lib.hid (by rw [hY]; exact LS.of_own HOX.out Txx.cells_length (by decide))
    have HLN : Hid (Y.cs.length ≤ 40 ∧ Y.xs.length ≤ 40) := Lib.hid (by rw [hY]; exact ⟨HL1.out.1, HL1.out.2⟩)
    clear hY hrx hon HOC HOX HRB HRX
    obtain ⟨qy, hqy⟩ : ∃ t, Rq.rmayRq Y = t := ⟨_, rfl⟩
    have HM1 : Hid (∀ u, Below wt.heap.size wt u → Calls Tryz.prog 22 #[.agg #[.string Y.key, .int .i64 Y.k, .int .i64 Y.d, .int .u64 Y.tk, .int .i64 Y.c, .int .i64 Y.st, .string Y.loc, .slice e1 a.cs.length g1, .slice e2 a.xs.length g2, .int .i64 Y.am, .int .i64 Y.fr, .int .i64 Y.tt]] u fun e w' => e = .returned (.bool qy) ∧ Below u.heap.size u w') := Lib.hid (fun u hu => by have h := rqMayA_any Y HWY.out _ _ _ _ _ _ u (HLC.out.below hu) (HLX.out.below hu) (by have := HLN.out; omega) (by have := HLN.out; omega); rw [may_same, hqy] at h; exact h)
    have HM2 : Hid (∀ u, Below wt.heap.size wt u → Calls Tryz.prog 20 #[.agg #[.string Y.key, .int .i64 Y.k, .int .i64 Y.d, .int .u64 Y.tk, .int .i64 Y.c, .int .i64 Y.st, .string Y.loc, .slice e1 a.cs.length g1, .slice e2 a.xs.length g2, .int .i64 Y.am, .int .i64 Y.fr, .int .i64 Y.tt]] u fun e w' => e = .returned (.bool qy) ∧ Below u.heap.size u w') := Lib.hid (fun u hu => by have h := rMay16_any Y HWY.out _ _ _ _ _ _ u (HLC.out.below hu) (HLX.out.below hu); rw [hqy] at h; exact h)
    have HM3 : Hid (∀ u, Below wt.heap.size wt u → Calls Tryz.prog 22 #[.agg #[.string a.key, .int .i64 a.k, .int .i64 a.d, .int .u64 a.tk, .int .i64 a.c, .int .i64 a.st, .string a.loc, .slice p1 n1 z1, .slice p2 n2 z2, .int .i64 a.am, .int .i64 a.fr, .int .i64 a.tt]] u fun e w' => e = .returned (.bool true) ∧ Below u.heap.size u w') := Lib.hid (fun u hu => by have h := rqMayA_any a HWA.out p1 p2 n1 z1 n2 z2 u (HAC.out.below (HB.out.trans (hu.mono HB.out.size))) (HAX.out.below (HB.out.trans (hu.mono HB.out.size))) (by have := HL1.out; omega) (by have := HL1.out; omega); rw [may_same, HQM.out] at h; exact h)
    obtain ⟨o1, o2, on, oc, om, od, hoA, hoc, hox⟩ := only_form Y Y.k _ _ _ _ _ _ wt HLC.out HLX.out
    have HON := Lib.hid (fun (W : World) => hoA ▸ rOnly_any Y _ _ _ _ _ _ W)
    clear hoA
    obtain ⟨q7, hq7⟩ : ∃ t, eqRq Y (Rq.onlyX Y Y.k) = t := ⟨_, rfl⟩
    have HSM := Lib.hid (fun u (hu : Below wt.heap.size wt u) => rSame16_any Y (Rq.onlyX Y Y.k) _ _ o1 o2 _ _ _ _ on oc om od u (HLC.out.below hu) (HLX.out.below hu) (hoc _ hu) (hox _ hu) q7 (by rw [← hq7]; exact eqRq_iff Y _))
    have hq8 : qy = true → q7 = true := by intro h; rw [← hq7]; rw [h] at hqy; unfold Rq.rmayRq at hqy; simp only [Bool.and_eq_true] at hqy; exact hqy.2.2
    clear hqy hq7 hoc hox HAC HAX HBC HBX
    cases qy
    case true =>
      obtain rfl : q7 = true := hq8 rfl
      have HN1 := Lib.hid (fun (u : Later wt) => HM1.out u.val u.prop)
      have HN2 := Lib.hid (fun (u : Later wt) => HM2.out u.val u.prop)
      have HN3 := Lib.hid (fun (u : Later wt) => HM3.out u.val u.prop)
      have HNS := Lib.hid (fun (u : Later wt) => HSM.out u.val u.prop)
      have f1 := fun (u : Later wt) => (row_loT 12 (g := gx) ((u.prop.block _ (block_lt HRY.out)).trans HRY.out) rfl rfl).1
      have f2 := fun (u : Later wt) => (row_loT 12 (g := gx) ((u.prop.block _ (block_lt HRY.out)).trans HRY.out) rfl rfl).2
      have f3 := fun (u : Later wt) => (row_loT 12 (g := w.heap.size) ((u.prop.block _ (block_lt HRA.out)).trans HRA.out) rfl rfl).1
      have f4 := fun (u : Later wt) => (row_loT 12 (g := w.heap.size) ((u.prop.block _ (block_lt HRA.out)).trans HRA.out) rfl rfl).2
      refine wp_region_later (by kernel_rfl) (by kernel_rfl) ?_
      repeat (go_big_quiet_step (first | (go_at_call 22; first | (with_reducible exact later_call (HN1.out _)) | (with_reducible exact later_call (HN3.out _)) | exact later_call (HN1.out _) | exact later_call (HN3.out _)) | (go_at_call 20; exact later_call (HN2.out _)) | (go_at_call 24; exact later_call (HON.out _)) | (go_at_call 23; exact later_call (HNS.out _)) | (go_at_call 12; exact later_call (known16_any _))))
      refine wpQuiet_nil ?_
      rintro w8 ⟨u, rfl⟩
      clear f1 f2 f3 f4
      go_upto_region 28 with fail
      have wuu := u.prop
      have HW9 := Lib.hid wuu
      clear HN1 HN2 HN3 HNS
      replace HRY := Lib.hid ((wuu.block _ (block_lt HRY.out)).trans HRY.out)
      replace HRA := Lib.hid ((wuu.block _ (block_lt HRA.out)).trans HRA.out)
      replace HB := Lib.hid (HB.out.trans (wuu.mono HB.out.size))
      clear wuu
      generalize u.val = w9 at *
      have HN1 := Lib.hid (fun (v : Later w9) => HM1.out v.val (HW9.out.trans (v.prop.mono HW9.out.size)))
      have HN2 := Lib.hid (fun (v : Later w9) => HM2.out v.val (HW9.out.trans (v.prop.mono HW9.out.size)))
      have HN3 := Lib.hid (fun (v : Later w9) => HM3.out v.val (HW9.out.trans (v.prop.mono HW9.out.size)))
      have HNS := Lib.hid (fun (v : Later w9) => HSM.out v.val (HW9.out.trans (v.prop.mono HW9.out.size)))
      have f1 := fun (u : Later w9) => (row_loT 12 (g := gx) ((u.prop.block _ (block_lt HRY.out)).trans HRY.out) rfl rfl).1
      have f2 := fun (u : Later w9) => (row_loT 12 (g := gx) ((u.prop.block _ (block_lt HRY.out)).trans HRY.out) rfl rfl).2
      have f3 := fun (u : Later w9) => (row_loT 12 (g := w.heap.size) ((u.prop.block _ (block_lt HRA.out)).trans HRA.out) rfl rfl).1
      have f4 := fun (u : Later w9) => (row_loT 12 (g := w.heap.size) ((u.prop.block _ (block_lt HRA.out)).trans HRA.out) rfl rfl).2
      refine wp_region_later (by kernel_rfl) (by kernel_rfl) ?_
      repeat (go_big_quiet_step (first | (go_at_call 22; first | (with_reducible exact later_call (HN1.out _)) | (with_reducible exact later_call (HN3.out _)) | exact later_call (HN1.out _) | exact later_call (HN3.out _)) | (go_at_call 20; exact later_call (HN2.out _)) | (go_at_call 24; exact later_call (HON.out _)) | (go_at_call 23; exact later_call (HNS.out _)) | (go_at_call 12; exact later_call (known16_any _))))
      refine wpQuiet_nil ?_
      rintro w8 ⟨u', rfl⟩
      go_wp2
      go_ret
      exact ⟨rfl, HB.out.trans (u'.prop.mono HB.out.size)⟩
    case false =>
      have HN1 := Lib.hid (fun (u : Later wt) => HM1.out u.val u.prop)
      have HN2 := Lib.hid (fun (u : Later wt) => HM2.out u.val u.prop)
      have HN3 := Lib.hid (fun (u : Later wt) => HM3.out u.val u.prop)
      have HNS := Lib.hid (fun (u : Later wt) => HSM.out u.val u.prop)
      have f1 := fun (u : Later wt) => (row_loT 12 (g := gx) ((u.prop.block _ (block_lt HRY.out)).trans HRY.out) rfl rfl).1
      have f2 := fun (u : Later wt) => (row_loT 12 (g := gx) ((u.prop.block _ (block_lt HRY.out)).trans HRY.out) rfl rfl).2
      have f3 := fun (u : Later wt) => (row_loT 12 (g := w.heap.size) ((u.prop.block _ (block_lt HRA.out)).trans HRA.out) rfl rfl).1
      have f4 := fun (u : Later wt) => (row_loT 12 (g := w.heap.size) ((u.prop.block _ (block_lt HRA.out)).trans HRA.out) rfl rfl).2
      refine wp_region_later (by kernel_rfl) (by kernel_rfl) ?_
      repeat (go_big_quiet_step (first | (go_at_call 22; first | (with_reducible exact later_call (HN1.out _)) | (with_reducible exact later_call (HN3.out _)) | exact later_call (HN1.out _) | exact later_call (HN3.out _)) | (go_at_call 20; exact later_call (HN2.out _)) | (go_at_call 24; exact later_call (HON.out _)) | (go_at_call 23; exact later_call (HNS.out _)) | (go_at_call 12; exact later_call (known16_any _))))
      refine wpQuiet_nil ?_
      rintro w8 ⟨u, rfl⟩
      clear f1 f2 f3 f4
      go_upto_region 28 with fail
      have wuu := u.prop
      have HW9 := Lib.hid wuu
      clear HN1 HN2 HN3 HNS
      replace HRY := Lib.hid ((wuu.block _ (block_lt HRY.out)).trans HRY.out)
      replace HRA := Lib.hid ((wuu.block _ (block_lt HRA.out)).trans HRA.out)
      replace HB := Lib.hid (HB.out.trans (wuu.mono HB.out.size))
      clear wuu
      generalize u.val = w9 at *
      have HN1 := Lib.hid (fun (v : Later w9) => HM1.out v.val (HW9.out.trans (v.prop.mono HW9.out.size)))
      have HN2 := Lib.hid (fun (v : Later w9) => HM2.out v.val (HW9.out.trans (v.prop.mono HW9.out.size)))
      have HN3 := Lib.hid (fun (v : Later w9) => HM3.out v.val (HW9.out.trans (v.prop.mono HW9.out.size)))
      have HNS := Lib.hid (fun (v : Later w9) => HSM.out v.val (HW9.out.trans (v.prop.mono HW9.out.size)))
      have f1 := fun (u : Later w9) => (row_loT 12 (g := gx) ((u.prop.block _ (block_lt HRY.out)).trans HRY.out) rfl rfl).1
      have f2 := fun (u : Later w9) => (row_loT 12 (g := gx) ((u.prop.block _ (block_lt HRY.out)).trans HRY.out) rfl rfl).2
      have f3 := fun (u : Later w9) => (row_loT 12 (g := w.heap.size) ((u.prop.block _ (block_lt HRA.out)).trans HRA.out) rfl rfl).1
      have f4 := fun (u : Later w9) => (row_loT 12 (g := w.heap.size) ((u.prop.block _ (block_lt HRA.out)).trans HRA.out) rfl rfl).2
      refine wp_region_later (by kernel_rfl) (by kernel_rfl) ?_
      repeat (go_big_quiet_step (first | (go_at_call 22; first | (with_reducible exact later_call (HN1.out _)) | (with_reducible exact later_call (HN3.out _)) | exact later_call (HN1.out _) | exact later_call (HN3.out _)) | (go_at_call 20; exact later_call (HN2.out _)) | (go_at_call 24; exact later_call (HON.out _)) | (go_at_call 23; exact later_call (HNS.out _)) | (go_at_call 12; exact later_call (known16_any _))))
      refine wpQuiet_nil ?_
      rintro w8 ⟨u', rfl⟩
      go_wp2
      go_ret
      exact ⟨rfl, HB.out.trans (u'.prop.mono HB.out.size)⟩
  · go_upto_region 26 with fail
    clear hbx hgx hfz
    have hon := (Only.refl gx w5).setCell 5 (.int .i64 b.st)
    have hrx : (w5.setCell ⟨gx, 5, none⟩ (.int .i64 b.st)).heap[gx]? = _ := heap_setCell_same _ _ _ _ _ _ HRX.out
    replace HRA := Lib.hid ((hon.block _ (block_lt HRA.out) (by have := HNG.out; omega)).trans HRA.out)
    replace HOC := Lib.hid (recs_keep HOC.out (fun b hb hlt => hon.block b hlt (own_neT HOC.out HRX.out (by decide) b hb)))
    replace HOX := Lib.hid (recs_keep HOX.out (fun b hb hlt => hon.block b hlt (own_neT HOX.out HRX.out (by decide) b hb)))
    replace HB := Lib.hid (Only.below HB.out (by have := HNG.out; omega) HB.out.size hon)
    obtain ⟨Y, hY⟩ : ∃ Y : Rqt, Y = ({ a with st := b.st } : Rqt) := ⟨_, rfl⟩
    have HRY : Hid ((w5.setCell ⟨gx, 5, none⟩ (.int .i64 b.st)).heap[gx]? = some (.cells #[.string Y.key, .int .i64 Y.k, .int .i64 Y.d, .int .u64 Y.tk, .int .i64 Y.c, .int .i64 Y.st, .string Y.loc, .slice e1 a.cs.length g1, .slice e2 a.xs.length g2, .int .i64 Y.am, .int .i64 Y.fr, .int .i64 Y.tt] 57 (0, 0))) := Lib.hid (by rw [hY]; exact hrx)
    generalize (w5.setCell ⟨gx, 5, none⟩ (.int .i64 b.st)) = wt at *
    have HWY : Hid Y.wf := Lib.hid (by rw [hY]; exact ⟨HWA.out.key, HWA.out.loc, HWA.out.k, HWA.out.d, HWA.out.tk, HWA.out.c, HWB.out.st, HWA.out.am, HWA.out.fr, HWA.out.tt, HWA.out.cs, HWA.out.xs⟩)
    have HLC : Hid (LS Cpn.cells 6 wt (.slice e1 a.cs.length g1) Y.cs) := Lib.hid (by rw [hY]; exact LS.of_own HOC.out Cpn.cells_length (by decide))
    have HLX : Hid (LS Txx.cells 2 wt (.slice e2 a.xs.length g2) Y.xs) := Lib.hid (by rw [hY]; exact LS.of_own HOX.out Txx.cells_length (by decide))
    have HLN : Hid (Y.cs.length ≤ 40 ∧ Y.xs.length ≤ 40) := Lib.hid (by rw [hY]; exact ⟨HL1.out.1, HL1.out.2⟩)
    clear hY hrx hon HOC HOX HRB HRX
    obtain ⟨qy, hqy⟩ : ∃ t, Rq.rmayRq Y = t := ⟨_, rfl⟩
    have HM1 : Hid (∀ u, Below wt.heap.size wt u → Calls Tryz.prog 22 #[.agg #[.string Y.key, .int .i64 Y.k, .int .i64 Y.d, .int .u64 Y.tk, .int .i64 Y.c, .int .i64 Y.st, .string Y.loc, .slice e1 a.cs.length g1, .slice e2 a.xs.length g2, .int .i64 Y.am, .int .i64 Y.fr, .int .i64 Y.tt]] u fun e w' => e = .returned (.bool qy) ∧ Below u.heap.size u w') := Lib.hid (fun u hu => by have h := rqMayA_any Y HWY.out _ _ _ _ _ _ u (HLC.out.below hu) (HLX.out.below hu) (by have := HLN.out; omega) (by have := HLN.out; omega); rw [may_same, hqy] at h; exact h)
    have HM2 : Hid (∀ u, Below wt.heap.size wt u → Calls Tryz.prog 20 #[.agg #[.string Y.key, .int .i64 Y.k, .int .i64 Y.d, .int .u64 Y.tk, .int .i64 Y.c, .int .i64 Y.st, .string Y.loc, .slice e1 a.cs.length g1, .slice e2 a.xs.length g2, .int .i64 Y.am, .int .i64 Y.fr, .int .i64 Y.tt]] u fun e w' => e = .returned (.bool qy) ∧ Below u.heap.size u w') := Lib.hid (fun u hu => by have h := rMay16_any Y HWY.out _ _ _ _ _ _ u (HLC.out.below hu) (HLX.out.below hu); rw [hqy] at h; exact h)
    have HM3 : Hid (∀ u, Below wt.heap.size wt u → Calls Tryz.prog 22 #[.agg #[.string a.key, .int .i64 a.k, .int .i64 a.d, .int .u64 a.tk, .int .i64 a.c, .int .i64 a.st, .string a.loc, .slice p1 n1 z1, .slice p2 n2 z2, .int .i64 a.am, .int .i64 a.fr, .int .i64 a.tt]] u fun e w' => e = .returned (.bool true) ∧ Below u.heap.size u w') := Lib.hid (fun u hu => by have h := rqMayA_any a HWA.out p1 p2 n1 z1 n2 z2 u (HAC.out.below (HB.out.trans (hu.mono HB.out.size))) (HAX.out.below (HB.out.trans (hu.mono HB.out.size))) (by have := HL1.out; omega) (by have := HL1.out; omega); rw [may_same, HQM.out] at h; exact h)
    obtain ⟨o1, o2, on, oc, om, od, hoA, hoc, hox⟩ := only_form Y Y.k _ _ _ _ _ _ wt HLC.out HLX.out
    have HON := Lib.hid (fun (W : World) => hoA ▸ rOnly_any Y _ _ _ _ _ _ W)
    clear hoA
    obtain ⟨q7, hq7⟩ : ∃ t, eqRq Y (Rq.onlyX Y Y.k) = t := ⟨_, rfl⟩
    have HSM := Lib.hid (fun u (hu : Below wt.heap.size wt u) => rSame16_any Y (Rq.onlyX Y Y.k) _ _ o1 o2 _ _ _ _ on oc om od u (HLC.out.below hu) (HLX.out.below hu) (hoc _ hu) (hox _ hu) q7 (by rw [← hq7]; exact eqRq_iff Y _))
    have hq8 : qy = true → q7 = true := by intro h; rw [← hq7]; rw [h] at hqy; unfold Rq.rmayRq at hqy; simp only [Bool.and_eq_true] at hqy; exact hqy.2.2
    clear hqy hq7 hoc hox HAC HAX HBC HBX
    cases qy
    case true =>
      obtain rfl : q7 = true := hq8 rfl
      have HN1 := Lib.hid (fun (u : Later wt) => HM1.out u.val u.prop)
      have HN2 := Lib.hid (fun (u : Later wt) => HM2.out u.val u.prop)
      have HN3 := Lib.hid (fun (u : Later wt) => HM3.out u.val u.prop)
      have HNS := Lib.hid (fun (u : Later wt) => HSM.out u.val u.prop)
      have f1 := fun (u : Later wt) => (row_loT 12 (g := gx) ((u.prop.block _ (block_lt HRY.out)).trans HRY.out) rfl rfl).1
      have f2 := fun (u : Later wt) => (row_loT 12 (g := gx) ((u.prop.block _ (block_lt HRY.out)).trans HRY.out) rfl rfl).2
      have f3 := fun (u : Later wt) => (row_loT 12 (g := w.heap.size) ((u.prop.block _ (block_lt HRA.out)).trans HRA.out) rfl rfl).1
      have f4 := fun (u : Later wt) => (row_loT 12 (g := w.heap.size) ((u.prop.block _ (block_lt HRA.out)).trans HRA.out) rfl rfl).2
      refine wp_region_later (by kernel_rfl) (by kernel_rfl) ?_
      repeat (go_big_quiet_step (first | (go_at_call 22; first | (with_reducible exact later_call (HN1.out _)) | (with_reducible exact later_call (HN3.out _)) | exact later_call (HN1.out _) | exact later_call (HN3.out _)) | (go_at_call 20; exact later_call (HN2.out _)) | (go_at_call 24; exact later_call (HON.out _)) | (go_at_call 23; exact later_call (HNS.out _)) | (go_at_call 12; exact later_call (known16_any _))))
      refine wpQuiet_nil ?_
      rintro w8 ⟨u, rfl⟩
      clear f1 f2 f3 f4
      go_upto_region 28 with fail
      have wuu := u.prop
      have HW9 := Lib.hid wuu
      clear HN1 HN2 HN3 HNS
      replace HRY := Lib.hid ((wuu.block _ (block_lt HRY.out)).trans HRY.out)
      replace HRA := Lib.hid ((wuu.block _ (block_lt HRA.out)).trans HRA.out)
      replace HB := Lib.hid (HB.out.trans (wuu.mono HB.out.size))
      clear wuu
      generalize u.val = w9 at *
      have HN1 := Lib.hid (fun (v : Later w9) => HM1.out v.val (HW9.out.trans (v.prop.mono HW9.out.size)))
      have HN2 := Lib.hid (fun (v : Later w9) => HM2.out v.val (HW9.out.trans (v.prop.mono HW9.out.size)))
      have HN3 := Lib.hid (fun (v : Later w9) => HM3.out v.val (HW9.out.trans (v.prop.mono HW9.out.size)))
      have HNS := Lib.hid (fun (v : Later w9) => HSM.out v.val (HW9.out.trans (v.prop.mono HW9.out.size)))
      have f1 := fun (u : Later w9) => (row_loT 12 (g := gx) ((u.prop.block _ (block_lt HRY.out)).trans HRY.out) rfl rfl).1
      have f2 := fun (u : Later w9) => (row_loT 12 (g := gx) ((u.prop.block _ (block_lt HRY.out)).trans HRY.out) rfl rfl).2
      have f3 := fun (u : Later w9) => (row_loT 12 (g := w.heap.size) ((u.prop.block _ (block_lt HRA.out)).trans HRA.out) rfl rfl).1
      have f4 := fun (u : Later w9) => (row_loT 12 (g := w.heap.size) ((u.prop.block _ (block_lt HRA.out)).trans HRA.out) rfl rfl).2
      refine wp_region_later (by kernel_rfl) (by kernel_rfl) ?_
      repeat (go_big_quiet_step (first | (go_at_call 22; first | (with_reducible exact later_call (HN1.out _)) | (with_reducible exact later_call (HN3.out _)) | exact later_call (HN1.out _) | exact later_call (HN3.out _)) | (go_at_call 20; exact later_call (HN2.out _)) | (go_at_call 24; exact later_call (HON.out _)) | (go_at_call 23; exact later_call (HNS.out _)) | (go_at_call 12; exact later_call (known16_any _))))
      refine wpQuiet_nil ?_
      rintro w8 ⟨u', rfl⟩
      go_wp2
      go_ret
      exact ⟨rfl, HB.out.trans (u'.prop.mono HB.out.size)⟩
    case false =>
      have HN1 := Lib.hid (fun (u : Later wt) => HM1.out u.val u.prop)
      have HN2 := Lib.hid (fun (u : Later wt) => HM2.out u.val u.prop)
      have HN3 := Lib.hid (fun (u : Later wt) => HM3.out u.val u.prop)
      have HNS := Lib.hid (fun (u : Later wt) => HSM.out u.val u.prop)
      have f1 := fun (u : Later wt) => (row_loT 12 (g := gx) ((u.prop.block _ (block_lt HRY.out)).trans HRY.out) rfl rfl).1
      have f2 := fun (u : Later wt) => (row_loT 12 (g := gx) ((u.prop.block _ (block_lt HRY.out)).trans HRY.out) rfl rfl).2
      have f3 := fun (u : Later wt) => (row_loT 12 (g := w.heap.size) ((u.prop.block _ (block_lt HRA.out)).trans HRA.out) rfl rfl).1
      have f4 := fun (u : Later wt) => (row_loT 12 (g := w.heap.size) ((u.prop.block _ (block_lt HRA.out)).trans HRA.out) rfl rfl).2
      refine wp_region_later (by kernel_rfl) (by kernel_rfl) ?_
      repeat (go_big_quiet_step (first | (go_at_call 22; first | (with_reducible exact later_call (HN1.out _)) | (with_reducible exact later_call (HN3.out _)) | exact later_call (HN1.out _) | exact later_call (HN3.out _)) | (go_at_call 20; exact later_call (HN2.out _)) | (go_at_call 24; exact later_call (HON.out _)) | (go_at_call 23; exact later_call (HNS.out _)) | (go_at_call 12; exact later_call (known16_any _))))
      refine wpQuiet_nil ?_
      rintro w8 ⟨u, rfl⟩
      clear f1 f2 f3 f4
      go_upto_region 28 with fail
      have wuu := u.prop
      have HW9 := Lib.hid wuu
      clear HN1 HN2 HN3 HNS
      replace HRY := Lib.hid ((wuu.block _ (block_lt HRY.out)).trans HRY.out)
      replace HRA := Lib.hid ((wuu.block _ (block_lt HRA.out)).trans HRA.out)
      replace HB := Lib.hid (HB.out.trans (wuu.mono HB.out.size))
      clear wuu
      generalize u.val = w9 at *
      have HN1 := Lib.hid (fun (v : Later w9) => HM1.out v.val (HW9.out.trans (v.prop.mono HW9.out.size)))
      have HN2 := Lib.hid (fun (v : Later w9) => HM2.out v.val (HW9.out.trans (v.prop.mono HW9.out.size)))
      have HN3 := Lib.hid (fun (v : Later w9) => HM3.out v.val (HW9.out.trans (v.prop.mono HW9.out.size)))
      have HNS := Lib.hid (fun (v : Later w9) => HSM.out v.val (HW9.out.trans (v.prop.mono HW9.out.size)))
      have f1 := fun (u : Later w9) => (row_loT 12 (g := gx) ((u.prop.block _ (block_lt HRY.out)).trans HRY.out) rfl rfl).1
      have f2 := fun (u : Later w9) => (row_loT 12 (g := gx) ((u.prop.block _ (block_lt HRY.out)).trans HRY.out) rfl rfl).2
      have f3 := fun (u : Later w9) => (row_loT 12 (g := w.heap.size) ((u.prop.block _ (block_lt HRA.out)).trans HRA.out) rfl rfl).1
      have f4 := fun (u : Later w9) => (row_loT 12 (g := w.heap.size) ((u.prop.block _ (block_lt HRA.out)).trans HRA.out) rfl rfl).2
      refine wp_region_later (by kernel_rfl) (by kernel_rfl) ?_
      repeat (go_big_quiet_step (first | (go_at_call 22; first | (with_reducible exact later_call (HN1.out _)) | (with_reducible exact later_call (HN3.out _)) | exact later_call (HN1.out _) | exact later_call (HN3.out _)) | (go_at_call 20; exact later_call (HN2.out _)) | (go_at_call 24; exact later_call (HON.out _)) | (go_at_call 23; exact later_call (HNS.out _)) | (go_at_call 12; exact later_call (known16_any _))))
      refine wpQuiet_nil ?_
      rintro w8 ⟨u', rfl⟩
      go_wp2
      go_ret
      exact ⟨rfl, HB.out.trans (u'.prop.mono HB.out.size)⟩
  · go_upto_region 26 with fail
    clear hbx hgx hfz
    have hon := (Only.refl gx w5).setCell 6 (.string b.loc)
    have hrx : (w5.setCell ⟨gx, 6, none⟩ (.string b.loc)).heap[gx]? = _ := heap_setCell_same _ _ _ _ _ _ HRX.out
    replace HRA := Lib.hid ((hon.block _ (block_lt HRA.out) (by have := HNG.out; omega)).trans HRA.out)
    replace HOC := Lib.hid (recs_keep HOC.out (fun b hb hlt => hon.block b hlt (own_neT HOC.out HRX.out (by decide) b hb)))
    replace HOX := Lib.hid (recs_keep HOX.out (fun b hb hlt => hon.block b hlt (own_neT HOX.out HRX.out (by decide) b hb)))
    replace HB := Lib.hid (Only.below HB.out (by have := HNG.out; omega) HB.out.size hon)
    obtain ⟨Y, hY⟩ : ∃ Y : Rqt, Y = ({ a with loc := b.loc } : Rqt) := ⟨_, rfl⟩
    have HRY : Hid ((w5.setCell ⟨gx, 6, none⟩ (.string b.loc)).heap[gx]? = some (.cells #[.string Y.key, .int .i64 Y.k, .int .i64 Y.d, .int .u64 Y.tk, .int .i64 Y.c, .int .i64 Y.st, .string Y.loc, .slice e1 a.cs.length g1, .slice e2 a.xs.length g2, .int .i64 Y.am, .int .i64 Y.fr, .int .i64 Y.tt] 57 (0, 0))) := Lib.hid (by rw [hY]; exact hrx)
    generalize (w5.setCell ⟨gx, 6, none⟩ (.string b.loc)) = wt at *
    have HWY : Hid Y.wf := Lib.hid (by rw [hY]; exact ⟨HWA.out.key, HWB.out.loc, HWA.out.k, HWA.out.d, HWA.out.tk, HWA.out.c, HWA.out.st, HWA.out.am, HWA.out.fr, HWA.out.tt, HWA.out.cs, HWA.out.xs⟩)
    have HLC : Hid (LS Cpn.cells 6 wt (.slice e1 a.cs.length g1) Y.cs) := Lib.hid (by rw [hY]; exact LS.of_own HOC.out Cpn.cells_length (by decide))
    have HLX : Hid (LS Txx.cells 2 wt (.slice e2 a.xs.length g2) Y.xs) := Lib.hid (by rw [hY]; exact LS.of_own HOX.out Txx.cells_length (by decide))
    have HLN : Hid (Y.cs.length ≤ 40 ∧ Y.xs.length ≤ 40) := Lib.hid (by rw [hY]; exact ⟨HL1.out.1, HL1.out.2⟩)
    clear hY hrx hon HOC HOX HRB HRX
    obtain ⟨qy, hqy⟩ : ∃ t, Rq.rmayRq Y = t := ⟨_, rfl⟩
    have HM1 : Hid (∀ u, Below wt.heap.size wt u → Calls Tryz.prog 22 #[.agg #[.string Y.key, .int .i64 Y.k, .int .i64 Y.d, .int .u64 Y.tk, .int .i64 Y.c, .int .i64 Y.st, .string Y.loc, .slice e1 a.cs.length g1, .slice e2 a.xs.length g2, .int .i64 Y.am, .int .i64 Y.fr, .int .i64 Y.tt]] u fun e w' => e = .returned (.bool qy) ∧ Below u.heap.size u w') := Lib.hid (fun u hu => by have h := rqMayA_any Y HWY.out _ _ _ _ _ _ u (HLC.out.below hu) (HLX.out.below hu) (by have := HLN.out; omega) (by have := HLN.out; omega); rw [may_same, hqy] at h; exact h)
    have HM2 : Hid (∀ u, Below wt.heap.size wt u → Calls Tryz.prog 20 #[.agg #[.string Y.key, .int .i64 Y.k, .int .i64 Y.d, .int .u64 Y.tk, .int .i64 Y.c, .int .i64 Y.st, .string Y.loc, .slice e1 a.cs.length g1, .slice e2 a.xs.length g2, .int .i64 Y.am, .int .i64 Y.fr, .int .i64 Y.tt]] u fun e w' => e = .returned (.bool qy) ∧ Below u.heap.size u w') := Lib.hid (fun u hu => by have h := rMay16_any Y HWY.out _ _ _ _ _ _ u (HLC.out.below hu) (HLX.out.below hu); rw [hqy] at h; exact h)
    have HM3 : Hid (∀ u, Below wt.heap.size wt u → Calls Tryz.prog 22 #[.agg #[.string a.key, .int .i64 a.k, .int .i64 a.d, .int .u64 a.tk, .int .i64 a.c, .int .i64 a.st, .string a.loc, .slice p1 n1 z1, .slice p2 n2 z2, .int .i64 a.am, .int .i64 a.fr, .int .i64 a.tt]] u fun e w' => e = .returned (.bool true) ∧ Below u.heap.size u w') := Lib.hid (fun u hu => by have h := rqMayA_any a HWA.out p1 p2 n1 z1 n2 z2 u (HAC.out.below (HB.out.trans (hu.mono HB.out.size))) (HAX.out.below (HB.out.trans (hu.mono HB.out.size))) (by have := HL1.out; omega) (by have := HL1.out; omega); rw [may_same, HQM.out] at h; exact h)
    obtain ⟨o1, o2, on, oc, om, od, hoA, hoc, hox⟩ := only_form Y Y.k _ _ _ _ _ _ wt HLC.out HLX.out
    have HON := Lib.hid (fun (W : World) => hoA ▸ rOnly_any Y _ _ _ _ _ _ W)
    clear hoA
    obtain ⟨q7, hq7⟩ : ∃ t, eqRq Y (Rq.onlyX Y Y.k) = t := ⟨_, rfl⟩
    have HSM := Lib.hid (fun u (hu : Below wt.heap.size wt u) => rSame16_any Y (Rq.onlyX Y Y.k) _ _ o1 o2 _ _ _ _ on oc om od u (HLC.out.below hu) (HLX.out.below hu) (hoc _ hu) (hox _ hu) q7 (by rw [← hq7]; exact eqRq_iff Y _))
    have hq8 : qy = true → q7 = true := by intro h; rw [← hq7]; rw [h] at hqy; unfold Rq.rmayRq at hqy; simp only [Bool.and_eq_true] at hqy; exact hqy.2.2
    clear hqy hq7 hoc hox HAC HAX HBC HBX
    cases qy
    case true =>
      obtain rfl : q7 = true := hq8 rfl
      have HN1 := Lib.hid (fun (u : Later wt) => HM1.out u.val u.prop)
      have HN2 := Lib.hid (fun (u : Later wt) => HM2.out u.val u.prop)
      have HN3 := Lib.hid (fun (u : Later wt) => HM3.out u.val u.prop)
      have HNS := Lib.hid (fun (u : Later wt) => HSM.out u.val u.prop)
      have f1 := fun (u : Later wt) => (row_loT 12 (g := gx) ((u.prop.block _ (block_lt HRY.out)).trans HRY.out) rfl rfl).1
      have f2 := fun (u : Later wt) => (row_loT 12 (g := gx) ((u.prop.block _ (block_lt HRY.out)).trans HRY.out) rfl rfl).2
      have f3 := fun (u : Later wt) => (row_loT 12 (g := w.heap.size) ((u.prop.block _ (block_lt HRA.out)).trans HRA.out) rfl rfl).1
      have f4 := fun (u : Later wt) => (row_loT 12 (g := w.heap.size) ((u.prop.block _ (block_lt HRA.out)).trans HRA.out) rfl rfl).2
      refine wp_region_later (by kernel_rfl) (by kernel_rfl) ?_
      repeat (go_big_quiet_step (first | (go_at_call 22; first | (with_reducible exact later_call (HN1.out _)) | (with_reducible exact later_call (HN3.out _)) | exact later_call (HN1.out _) | exact later_call (HN3.out _)) | (go_at_call 20; exact later_call (HN2.out _)) | (go_at_call 24; exact later_call (HON.out _)) | (go_at_call 23; exact later_call (HNS.out _)) | (go_at_call 12; exact later_call (known16_any _))))
      refine wpQuiet_nil ?_
      rintro w8 ⟨u, rfl⟩
      clear f1 f2 f3 f4
      go_upto_region 28 with fail
      have wuu := u.prop
      have HW9 := Lib.hid wuu
      clear HN1 HN2 HN3 HNS
      replace HRY := Lib.hid ((wuu.block _ (block_lt HRY.out)).trans HRY.out)
      replace HRA := Lib.hid ((wuu.block _ (block_lt HRA.out)).trans HRA.out)
      replace HB := Lib.hid (HB.out.trans (wuu.mono HB.out.size))
      clear wuu
      generalize u.val = w9 at *
      have HN1 := Lib.hid (fun (v : Later w9) => HM1.out v.val (HW9.out.trans (v.prop.mono HW9.out.size)))
      have HN2 := Lib.hid (fun (v : Later w9) => HM2.out v.val (HW9.out.trans (v.prop.mono HW9.out.size)))
      have HN3 := Lib.hid (fun (v : Later w9) => HM3.out v.val (HW9.out.trans (v.prop.mono HW9.out.size)))
      have HNS := Lib.hid (fun (v : Later w9) => HSM.out v.val (HW9.out.trans (v.prop.mono HW9.out.size)))
      have f1 := fun (u : Later w9) => (row_loT 12 (g := gx) ((u.prop.block _ (block_lt HRY.out)).trans HRY.out) rfl rfl).1
      have f2 := fun (u : Later w9) => (row_loT 12 (g := gx) ((u.prop.block _ (block_lt HRY.out)).trans HRY.out) rfl rfl).2
      have f3 := fun (u : Later w9) => (row_loT 12 (g := w.heap.size) ((u.prop.block _ (block_lt HRA.out)).trans HRA.out) rfl rfl).1
      have f4 := fun (u : Later w9) => (row_loT 12 (g := w.heap.size) ((u.prop.block _ (block_lt HRA.out)).trans HRA.out) rfl rfl).2
      refine wp_region_later (by kernel_rfl) (by kernel_rfl) ?_
      repeat (go_big_quiet_step (first | (go_at_call 22; first | (with_reducible exact later_call (HN1.out _)) | (with_reducible exact later_call (HN3.out _)) | exact later_call (HN1.out _) | exact later_call (HN3.out _)) | (go_at_call 20; exact later_call (HN2.out _)) | (go_at_call 24; exact later_call (HON.out _)) | (go_at_call 23; exact later_call (HNS.out _)) | (go_at_call 12; exact later_call (known16_any _))))
      refine wpQuiet_nil ?_
      rintro w8 ⟨u', rfl⟩
      go_wp2
      go_ret
      exact ⟨rfl, HB.out.trans (u'.prop.mono HB.out.size)⟩
    case false =>
      have HN1 := Lib.hid (fun (u : Later wt) => HM1.out u.val u.prop)
      have HN2 := Lib.hid (fun (u : Later wt) => HM2.out u.val u.prop)
      have HN3 := Lib.hid (fun (u : Later wt) => HM3.out u.val u.prop)
      have HNS := Lib.hid (fun (u : Later wt) => HSM.out u.val u.prop)
      have f1 := fun (u : Later wt) => (row_loT 12 (g := gx) ((u.prop.block _ (block_lt HRY.out)).trans HRY.out) rfl rfl).1
      have f2 := fun (u : Later wt) => (row_loT 12 (g := gx) ((u.prop.block _ (block_lt HRY.out)).trans HRY.out) rfl rfl).2
      have f3 := fun (u : Later wt) => (row_loT 12 (g := w.heap.size) ((u.prop.block _ (block_lt HRA.out)).trans HRA.out) rfl rfl).1
      have f4 := fun (u : Later wt) => (row_loT 12 (g := w.heap.size) ((u.prop.block _ (block_lt HRA.out)).trans HRA.out) rfl rfl).2
      refine wp_region_later (by kernel_rfl) (by kernel_rfl) ?_
      repeat (go_big_quiet_step (first | (go_at_call 22; first | (with_reducible exact later_call (HN1.out _)) | (with_reducible exact later_call (HN3.out _)) | exact later_call (HN1.out _) | exact later_call (HN3.out _)) | (go_at_call 20; exact later_call (HN2.out _)) | (go_at_call 24; exact later_call (HON.out _)) | (go_at_call 23; exact later_call (HNS.out _)) | (go_at_call 12; exact later_call (known16_any _))))
      refine wpQuiet_nil ?_
      rintro w8 ⟨u, rfl⟩
      clear f1 f2 f3 f4
      go_upto_region 28 with fail
      have wuu := u.prop
      have HW9 := Lib.hid wuu
      clear HN1 HN2 HN3 HNS
      replace HRY := Lib.hid ((wuu.block _ (block_lt HRY.out)).trans HRY.out)
      replace HRA := Lib.hid ((wuu.block _ (block_lt HRA.out)).trans HRA.out)
      replace HB := Lib.hid (HB.out.trans (wuu.mono HB.out.size))
      clear wuu
      generalize u.val = w9 at *
      have HN1 := Lib.hid (fun (v : Later w9) => HM1.out v.val (HW9.out.trans (v.prop.mono HW9.out.size)))
      have HN2 := Lib.hid (fun (v : Later w9) => HM2.out v.val (HW9.out.trans (v.prop.mono HW9.out.size)))
      have HN3 := Lib.hid (fun (v : Later w9) => HM3.out v.val (HW9.out.trans (v.prop.mono HW9.out.size)))
      have HNS := Lib.hid (fun (v : Later w9) => HSM.out v.val (HW9.out.trans (v.prop.mono HW9.out.size)))
      have f1 := fun (u : Later w9) => (row_loT 12 (g := gx) ((u.prop.block _ (block_lt HRY.out)).trans HRY.out) rfl rfl).1
      have f2 := fun (u : Later w9) => (row_loT 12 (g := gx) ((u.prop.block _ (block_lt HRY.out)).trans HRY.out) rfl rfl).2
      have f3 := fun (u : Later w9) => (row_loT 12 (g := w.heap.size) ((u.prop.block _ (block_lt HRA.out)).trans HRA.out) rfl rfl).1
      have f4 := fun (u : Later w9) => (row_loT 12 (g := w.heap.size) ((u.prop.block _ (block_lt HRA.out)).trans HRA.out) rfl rfl).2
      refine wp_region_later (by kernel_rfl) (by kernel_rfl) ?_
      repeat (go_big_quiet_step (first | (go_at_call 22; first | (with_reducible exact later_call (HN1.out _)) | (with_reducible exact later_call (HN3.out _)) | exact later_call (HN1.out _) | exact later_call (HN3.out _)) | (go_at_call 20; exact later_call (HN2.out _)) | (go_at_call 24; exact later_call (HON.out _)) | (go_at_call 23; exact later_call (HNS.out _)) | (go_at_call 12; exact later_call (known16_any _))))
      refine wpQuiet_nil ?_
      rintro w8 ⟨u', rfl⟩
      go_wp2
      go_ret
      exact ⟨rfl, HB.out.trans (u'.prop.mono HB.out.size)⟩
  · go_upto_region 26 with fail
    clear hbx hgx hfz
    have hon := (Only.refl gx w5).setCell 7 (.slice s1 m1 y1)
    have hrx : (w5.setCell ⟨gx, 7, none⟩ (.slice s1 m1 y1)).heap[gx]? = _ := heap_setCell_same _ _ _ _ _ _ HRX.out
    replace HRA := Lib.hid ((hon.block _ (block_lt HRA.out) (by have := HNG.out; omega)).trans HRA.out)
    replace HOC := Lib.hid (recs_keep HOC.out (fun b hb hlt => hon.block b hlt (own_neT HOC.out HRX.out (by decide) b hb)))
    replace HOX := Lib.hid (recs_keep HOX.out (fun b hb hlt => hon.block b hlt (own_neT HOX.out HRX.out (by decide) b hb)))
    replace HB := Lib.hid (Only.below HB.out (by have := HNG.out; omega) HB.out.size hon)
    obtain ⟨Y, hY⟩ : ∃ Y : Rqt, Y = ({ a with cs := b.cs } : Rqt) := ⟨_, rfl⟩
    have HRY : Hid ((w5.setCell ⟨gx, 7, none⟩ (.slice s1 m1 y1)).heap[gx]? = some (.cells #[.string Y.key, .int .i64 Y.k, .int .i64 Y.d, .int .u64 Y.tk, .int .i64 Y.c, .int .i64 Y.st, .string Y.loc, .slice s1 m1 y1, .slice e2 a.xs.length g2, .int .i64 Y.am, .int .i64 Y.fr, .int .i64 Y.tt] 57 (0, 0))) := Lib.hid (by rw [hY]; exact hrx)
    generalize (w5.setCell ⟨gx, 7, none⟩ (.slice s1 m1 y1)) = wt at *
    have HWY : Hid Y.wf := Lib.hid (by rw [hY]; exact ⟨HWA.out.key, HWA.out.loc, HWA.out.k, HWA.out.d, HWA.out.tk, HWA.out.c, HWA.out.st, HWA.out.am, HWA.out.fr, HWA.out.tt, HWB.out.cs, HWA.out.xs⟩)
    have HLC : Hid (LS Cpn.cells 6 wt (.slice s1 m1 y1) Y.cs) := Lib.hid (by rw [hY]; exact HBC.out.below HB.out)
    have HLX : Hid (LS Txx.cells 2 wt (.slice e2 a.xs.length g2) Y.xs) := Lib.hid (by rw [hY]; exact LS.of_own HOX.out Txx.cells_length (by decide))
    have HLN : Hid (Y.cs.length ≤ 40 ∧ Y.xs.length ≤ 40) := Lib.hid (by rw [hY]; exact ⟨HL2.out.1, HL1.out.2⟩)
    clear hY hrx hon HOC HOX HRB HRX
    obtain ⟨qy, hqy⟩ : ∃ t, Rq.rmayRq Y = t := ⟨_, rfl⟩
    have HM1 : Hid (∀ u, Below wt.heap.size wt u → Calls Tryz.prog 22 #[.agg #[.string Y.key, .int .i64 Y.k, .int .i64 Y.d, .int .u64 Y.tk, .int .i64 Y.c, .int .i64 Y.st, .string Y.loc, .slice s1 m1 y1, .slice e2 a.xs.length g2, .int .i64 Y.am, .int .i64 Y.fr, .int .i64 Y.tt]] u fun e w' => e = .returned (.bool qy) ∧ Below u.heap.size u w') := Lib.hid (fun u hu => by have h := rqMayA_any Y HWY.out _ _ _ _ _ _ u (HLC.out.below hu) (HLX.out.below hu) (by have := HLN.out; omega) (by have := HLN.out; omega); rw [may_same, hqy] at h; exact h)
    have HM2 : Hid (∀ u, Below wt.heap.size wt u → Calls Tryz.prog 20 #[.agg #[.string Y.key, .int .i64 Y.k, .int .i64 Y.d, .int .u64 Y.tk, .int .i64 Y.c, .int .i64 Y.st, .string Y.loc, .slice s1 m1 y1, .slice e2 a.xs.length g2, .int .i64 Y.am, .int .i64 Y.fr, .int .i64 Y.tt]] u fun e w' => e = .returned (.bool qy) ∧ Below u.heap.size u w') := Lib.hid (fun u hu => by have h := rMay16_any Y HWY.out _ _ _ _ _ _ u (HLC.out.below hu) (HLX.out.below hu); rw [hqy] at h; exact h)
    have HM3 : Hid (∀ u, Below wt.heap.size wt u → Calls Tryz.prog 22 #[.agg #[.string a.key, .int .i64 a.k, .int .i64 a.d, .int .u64 a.tk, .int .i64 a.c, .int .i64 a.st, .string a.loc, .slice p1 n1 z1, .slice p2 n2 z2, .int .i64 a.am, .int .i64 a.fr, .int .i64 a.tt]] u fun e w' => e = .returned (.bool true) ∧ Below u.heap.size u w') := Lib.hid (fun u hu => by have h := rqMayA_any a HWA.out p1 p2 n1 z1 n2 z2 u (HAC.out.below (HB.out.trans (hu.mono HB.out.size))) (HAX.out.below (HB.out.trans (hu.mono HB.out.size))) (by have := HL1.out; omega) (by have := HL1.out; omega); rw [may_same, HQM.out] at h; exact h)
    obtain ⟨o1, o2, on, oc, om, od, hoA, hoc, hox⟩ := only_form Y Y.k _ _ _ _ _ _ wt HLC.out HLX.out
    have HON := Lib.hid (fun (W : World) => hoA ▸ rOnly_any Y _ _ _ _ _ _ W)
    clear hoA
    obtain ⟨q7, hq7⟩ : ∃ t, eqRq Y (Rq.onlyX Y Y.k) = t := ⟨_, rfl⟩
    have HSM := Lib.hid (fun u (hu : Below wt.heap.size wt u) => rSame16_any Y (Rq.onlyX Y Y.k) _ _ o1 o2 _ _ _ _ on oc om od u (HLC.out.below hu) (HLX.out.below hu) (hoc _ hu) (hox _ hu) q7 (by rw [← hq7]; exact eqRq_iff Y _))
    have hq8 : qy = true → q7 = true := by intro h; rw [← hq7]; rw [h] at hqy; unfold Rq.rmayRq at hqy; simp only [Bool.and_eq_true] at hqy; exact hqy.2.2
    clear hqy hq7 hoc hox HAC HAX HBC HBX
    cases qy
    case true =>
      obtain rfl : q7 = true := hq8 rfl
      have HN1 := Lib.hid (fun (u : Later wt) => HM1.out u.val u.prop)
      have HN2 := Lib.hid (fun (u : Later wt) => HM2.out u.val u.prop)
      have HN3 := Lib.hid (fun (u : Later wt) => HM3.out u.val u.prop)
      have HNS := Lib.hid (fun (u : Later wt) => HSM.out u.val u.prop)
      have f1 := fun (u : Later wt) => (row_loT 12 (g := gx) ((u.prop.block _ (block_lt HRY.out)).trans HRY.out) rfl rfl).1
      have f2 := fun (u : Later wt) => (row_loT 12 (g := gx) ((u.prop.block _ (block_lt HRY.out)).trans HRY.out) rfl rfl).2
      have f3 := fun (u : Later wt) => (row_loT 12 (g := w.heap.size) ((u.prop.block _ (block_lt HRA.out)).trans HRA.out) rfl rfl).1
      have f4 := fun (u : Later wt) => (row_loT 12 (g := w.heap.size) ((u.prop.block _ (block_lt HRA.out)).trans HRA.out) rfl rfl).2
      refine wp_region_later (by kernel_rfl) (by kernel_rfl) ?_
      repeat (go_big_quiet_step (first | (go_at_call 22; first | (with_reducible exact later_call (HN1.out _)) | (with_reducible exact later_call (HN3.out _)) | exact later_call (HN1.out _) | exact later_call (HN3.out _)) | (go_at_call 20; exact later_call (HN2.out _)) | (go_at_call 24; exact later_call (HON.out _)) | (go_at_call 23; exact later_call (HNS.out _)) | (go_at_call 12; exact later_call (known16_any _))))
      refine wpQuiet_nil ?_
      rintro w8 ⟨u, rfl⟩
      clear f1 f2 f3 f4
      go_upto_region 28 with fail
      have wuu := u.prop
      have HW9 := Lib.hid wuu
      clear HN1 HN2 HN3 HNS
      replace HRY := Lib.hid ((wuu.block _ (block_lt HRY.out)).trans HRY.out)
      replace HRA := Lib.hid ((wuu.block _ (block_lt HRA.out)).trans HRA.out)
      replace HB := Lib.hid (HB.out.trans (wuu.mono HB.out.size))
      clear wuu
      generalize u.val = w9 at *
      have HN1 := Lib.hid (fun (v : Later w9) => HM1.out v.val (HW9.out.trans (v.prop.mono HW9.out.size)))
      have HN2 := Lib.hid (fun (v : Later w9) => HM2.out v.val (HW9.out.trans (v.prop.mono HW9.out.size)))
      have HN3 := Lib.hid (fun (v : Later w9) => HM3.out v.val (HW9.out.trans (v.prop.mono HW9.out.size)))
      have HNS := Lib.hid (fun (v : Later w9) => HSM.out v.val (HW9.out.trans (v.prop.mono HW9.out.size)))
      have f1 := fun (u : Later w9) => (row_loT 12 (g := gx) ((u.prop.block _ (block_lt HRY.out)).trans HRY.out) rfl rfl).1
      have f2 := fun (u : Later w9) => (row_loT 12 (g := gx) ((u.prop.block _ (block_lt HRY.out)).trans HRY.out) rfl rfl).2
      have f3 := fun (u : Later w9) => (row_loT 12 (g := w.heap.size) ((u.prop.block _ (block_lt HRA.out)).trans HRA.out) rfl rfl).1
      have f4 := fun (u : Later w9) => (row_loT 12 (g := w.heap.size) ((u.prop.block _ (block_lt HRA.out)).trans HRA.out) rfl rfl).2
      refine wp_region_later (by kernel_rfl) (by kernel_rfl) ?_
      repeat (go_big_quiet_step (first | (go_at_call 22; first | (with_reducible exact later_call (HN1.out _)) | (with_reducible exact later_call (HN3.out _)) | exact later_call (HN1.out _) | exact later_call (HN3.out _)) | (go_at_call 20; exact later_call (HN2.out _)) | (go_at_call 24; exact later_call (HON.out _)) | (go_at_call 23; exact later_call (HNS.out _)) | (go_at_call 12; exact later_call (known16_any _))))
      refine wpQuiet_nil ?_
      rintro w8 ⟨u', rfl⟩
      go_wp2
      go_ret
      exact ⟨rfl, HB.out.trans (u'.prop.mono HB.out.size)⟩
    case false =>
      have HN1 := Lib.hid (fun (u : Later wt) => HM1.out u.val u.prop)
      have HN2 := Lib.hid (fun (u : Later wt) => HM2.out u.val u.prop)
      have HN3 := Lib.hid (fun (u : Later wt) => HM3.out u.val u.prop)
      have HNS := Lib.hid (fun (u : Later wt) => HSM.out u.val u.prop)
      have f1 := fun (u : Later wt) => (row_loT 12 (g := gx) ((u.prop.block _ (block_lt HRY.out)).trans HRY.out) rfl rfl).1
      have f2 := fun (u : Later wt) => (row_loT 12 (g := gx) ((u.prop.block _ (block_lt HRY.out)).trans HRY.out) rfl rfl).2
      have f3 := fun (u : Later wt) => (row_loT 12 (g := w.heap.size) ((u.prop.block _ (block_lt HRA.out)).trans HRA.out) rfl rfl).1
      have f4 := fun (u : Later wt) => (row_loT 12 (g := w.heap.size) ((u.prop.block _ (block_lt HRA.out)).trans HRA.out) rfl rfl).2
      refine wp_region_later (by kernel_rfl) (by kernel_rfl) ?_
      repeat (go_big_quiet_step (first | (go_at_call 22; first | (with_reducible exact later_call (HN1.out _)) | (with_reducible exact later_call (HN3.out _)) | exact later_call (HN1.out _) | exact later_call (HN3.out _)) | (go_at_call 20; exact later_call (HN2.out _)) | (go_at_call 24; exact later_call (HON.out _)) | (go_at_call 23; exact later_call (HNS.out _)) | (go_at_call 12; exact later_call (known16_any _))))
      refine wpQuiet_nil ?_
      rintro w8 ⟨u, rfl⟩
      clear f1 f2 f3 f4
      go_upto_region 28 with fail
      have wuu := u.prop
      have HW9 := Lib.hid wuu
      clear HN1 HN2 HN3 HNS
      replace HRY := Lib.hid ((wuu.block _ (block_lt HRY.out)).trans HRY.out)
      replace HRA := Lib.hid ((wuu.block _ (block_lt HRA.out)).trans HRA.out)
      replace HB := Lib.hid (HB.out.trans (wuu.mono HB.out.size))
      clear wuu
      generalize u.val = w9 at *
      have HN1 := Lib.hid (fun (v : Later w9) => HM1.out v.val (HW9.out.trans (v.prop.mono HW9.out.size)))
      have HN2 := Lib.hid (fun (v : Later w9) => HM2.out v.val (HW9.out.trans (v.prop.mono HW9.out.size)))
      have HN3 := Lib.hid (fun (v : Later w9) => HM3.out v.val (HW9.out.trans (v.prop.mono HW9.out.size)))
      have HNS := Lib.hid (fun (v : Later w9) => HSM.out v.val (HW9.out.trans (v.prop.mono HW9.out.size)))
      have f1 := fun (u : Later w9) => (row_loT 12 (g := gx) ((u.prop.block _ (block_lt HRY.out)).trans HRY.out) rfl rfl).1
      have f2 := fun (u : Later w9) => (row_loT 12 (g := gx) ((u.prop.block _ (block_lt HRY.out)).trans HRY.out) rfl rfl).2
      have f3 := fun (u : Later w9) => (row_loT 12 (g := w.heap.size) ((u.prop.block _ (block_lt HRA.out)).trans HRA.out) rfl rfl).1
      have f4 := fun (u : Later w9) => (row_loT 12 (g := w.heap.size) ((u.prop.block _ (block_lt HRA.out)).trans HRA.out) rfl rfl).2
      refine wp_region_later (by kernel_rfl) (by kernel_rfl) ?_
      repeat (go_big_quiet_step (first | (go_at_call 22; first | (with_reducible exact later_call (HN1.out _)) | (with_reducible exact later_call (HN3.out _)) | exact later_call (HN1.out _) | exact later_call (HN3.out _)) | (go_at_call 20; exact later_call (HN2.out _)) | (go_at_call 24; exact later_call (HON.out _)) | (go_at_call 23; exact later_call (HNS.out _)) | (go_at_call 12; exact later_call (known16_any _))))
      refine wpQuiet_nil ?_
      rintro w8 ⟨u', rfl⟩
      go_wp2
      go_ret
      exact ⟨rfl, HB.out.trans (u'.prop.mono HB.out.size)⟩
  · go_upto_region 26 with fail
    clear hbx hgx hfz
    have hon := (Only.refl gx w5).setCell 8 (.slice s2 m2 y2)
    have hrx : (w5.setCell ⟨gx, 8, none⟩ (.slice s2 m2 y2)).heap[gx]? = _ := heap_setCell_same _ _ _ _ _ _ HRX.out
    replace HRA := Lib.hid ((hon.block _ (block_lt HRA.out) (by have := HNG.out; omega)).trans HRA.out)
    replace HOC := Lib.hid (recs_keep HOC.out (fun b hb hlt => hon.block b hlt (own_neT HOC.out HRX.out (by decide) b hb)))
    replace HOX := Lib.hid (recs_keep HOX.out (fun b hb hlt => hon.block b hlt (own_neT HOX.out HRX.out (by decide) b hb)))
    replace HB := Lib.hid (Only.below HB.out (by have := HNG.out; omega) HB.out.size hon)
    obtain ⟨Y, hY⟩ : ∃ Y : Rqt, Y = ({ a with xs := b.xs } : Rqt) := ⟨_, rfl⟩
    have HRY : Hid ((w5.setCell ⟨gx, 8, none⟩ (.slice s2 m2 y2)).heap[gx]? = some (.cells #[.string Y.key, .int .i64 Y.k, .int .i64 Y.d, .int .u64 Y.tk, .int .i64 Y.c, .int .i64 Y.st, .string Y.loc, .slice e1 a.cs.length g1, .slice s2 m2 y2, .int .i64 Y.am, .int .i64 Y.fr, .int .i64 Y.tt] 57 (0, 0))) := Lib.hid (by rw [hY]; exact hrx)
    generalize (w5.setCell ⟨gx, 8, none⟩ (.slice s2 m2 y2)) = wt at *
    have HWY : Hid Y.wf := Lib.hid (by rw [hY]; exact ⟨HWA.out.key, HWA.out.loc, HWA.out.k, HWA.out.d, HWA.out.tk, HWA.out.c, HWA.out.st, HWA.out.am, HWA.out.fr, HWA.out.tt, HWA.out.cs, HWB.out.xs⟩)
    have HLC : Hid (LS Cpn.cells 6 wt (.slice e1 a.cs.length g1) Y.cs) := Lib.hid (by rw [hY]; exact LS.of_own HOC.out Cpn.cells_length (by decide))
    have HLX : Hid (LS Txx.cells 2 wt (.slice s2 m2 y2) Y.xs) := Lib.hid (by rw [hY]; exact HBX.out.below HB.out)
    have HLN : Hid (Y.cs.length ≤ 40 ∧ Y.xs.length ≤ 40) := Lib.hid (by rw [hY]; exact ⟨HL1.out.1, HL2.out.2⟩)
    clear hY hrx hon HOC HOX HRB HRX
    obtain ⟨qy, hqy⟩ : ∃ t, Rq.rmayRq Y = t := ⟨_, rfl⟩
    have HM1 : Hid (∀ u, Below wt.heap.size wt u → Calls Tryz.prog 22 #[.agg #[.string Y.key, .int .i64 Y.k, .int .i64 Y.d, .int .u64 Y.tk, .int .i64 Y.c, .int .i64 Y.st, .string Y.loc, .slice e1 a.cs.length g1, .slice s2 m2 y2, .int .i64 Y.am, .int .i64 Y.fr, .int .i64 Y.tt]] u fun e w' => e = .returned (.bool qy) ∧ Below u.heap.size u w') := Lib.hid (fun u hu => by have h := rqMayA_any Y HWY.out _ _ _ _ _ _ u (HLC.out.below hu) (HLX.out.below hu) (by have := HLN.out; omega) (by have := HLN.out; omega); rw [may_same, hqy] at h; exact h)
    have HM2 : Hid (∀ u, Below wt.heap.size wt u → Calls Tryz.prog 20 #[.agg #[.string Y.key, .int .i64 Y.k, .int .i64 Y.d, .int .u64 Y.tk, .int .i64 Y.c, .int .i64 Y.st, .string Y.loc, .slice e1 a.cs.length g1, .slice s2 m2 y2, .int .i64 Y.am, .int .i64 Y.fr, .int .i64 Y.tt]] u fun e w' => e = .returned (.bool qy) ∧ Below u.heap.size u w') := Lib.hid (fun u hu => by have h := rMay16_any Y HWY.out _ _ _ _ _ _ u (HLC.out.below hu) (HLX.out.below hu); rw [hqy] at h; exact h)
    have HM3 : Hid (∀ u, Below wt.heap.size wt u → Calls Tryz.prog 22 #[.agg #[.string a.key, .int .i64 a.k, .int .i64 a.d, .int .u64 a.tk, .int .i64 a.c, .int .i64 a.st, .string a.loc, .slice p1 n1 z1, .slice p2 n2 z2, .int .i64 a.am, .int .i64 a.fr, .int .i64 a.tt]] u fun e w' => e = .returned (.bool true) ∧ Below u.heap.size u w') := Lib.hid (fun u hu => by have h := rqMayA_any a HWA.out p1 p2 n1 z1 n2 z2 u (HAC.out.below (HB.out.trans (hu.mono HB.out.size))) (HAX.out.below (HB.out.trans (hu.mono HB.out.size))) (by have := HL1.out; omega) (by have := HL1.out; omega); rw [may_same, HQM.out] at h; exact h)
    obtain ⟨o1, o2, on, oc, om, od, hoA, hoc, hox⟩ := only_form Y Y.k _ _ _ _ _ _ wt HLC.out HLX.out
    have HON := Lib.hid (fun (W : World) => hoA ▸ rOnly_any Y _ _ _ _ _ _ W)
    clear hoA
    obtain ⟨q7, hq7⟩ : ∃ t, eqRq Y (Rq.onlyX Y Y.k) = t := ⟨_, rfl⟩
    have HSM := Lib.hid (fun u (hu : Below wt.heap.size wt u) => rSame16_any Y (Rq.onlyX Y Y.k) _ _ o1 o2 _ _ _ _ on oc om od u (HLC.out.below hu) (HLX.out.below hu) (hoc _ hu) (hox _ hu) q7 (by rw [← hq7]; exact eqRq_iff Y _))
    have hq8 : qy = true → q7 = true := by intro h; rw [← hq7]; rw [h] at hqy; unfold Rq.rmayRq at hqy; simp only [Bool.and_eq_true] at hqy; exact hqy.2.2
    clear hqy hq7 hoc hox HAC HAX HBC HBX
    cases qy
    case true =>
      obtain rfl : q7 = true := hq8 rfl
      have HN1 := Lib.hid (fun (u : Later wt) => HM1.out u.val u.prop)
      have HN2 := Lib.hid (fun (u : Later wt) => HM2.out u.val u.prop)
      have HN3 := Lib.hid (fun (u : Later wt) => HM3.out u.val u.prop)
      have HNS := Lib.hid (fun (u : Later wt) => HSM.out u.val u.prop)
      have f1 := fun (u : Later wt) => (row_loT 12 (g := gx) ((u.prop.block _ (block_lt HRY.out)).trans HRY.out) rfl rfl).1
      have f2 := fun (u : Later wt) => (row_loT 12 (g := gx) ((u.prop.block _ (block_lt HRY.out)).trans HRY.out) rfl rfl).2
      have f3 := fun (u : Later wt) => (row_loT 12 (g := w.heap.size) ((u.prop.block _ (block_lt HRA.out)).trans HRA.out) rfl rfl).1
      have f4 := fun (u : Later wt) => (row_loT 12 (g := w.heap.size) ((u.prop.block _ (block_lt HRA.out)).trans HRA.out) rfl rfl).2
      refine wp_region_later (by kernel_rfl) (by kernel_rfl) ?_
      repeat (go_big_quiet_step (first | (go_at_call 22; first | (with_reducible exact later_call (HN1.out _)) | (with_reducible exact later_call (HN3.out _)) | exact later_call (HN1.out _) | exact later_call (HN3.out _)) | (go_at_call 20; exact later_call (HN2.out _)) | (go_at_call 24; exact later_call (HON.out _)) | (go_at_call 23; exact later_call (HNS.out _)) | (go_at_call 12; exact later_call (known16_any _))))
      refine wpQuiet_nil ?_
      rintro w8 ⟨u, rfl⟩
      clear f1 f2 f3 f4
      go_upto_region 28 with fail
      have wuu := u.prop
      have HW9 := Lib.hid wuu
      clear HN1 HN2 HN3 HNS
      replace HRY := Lib.hid ((wuu.block _ (block_lt HRY.out)).trans HRY.out)
      replace HRA := Lib.hid ((wuu.block _ (block_lt HRA.out)).trans HRA.out)
      replace HB := Lib.hid (HB.out.trans (wuu.mono HB.out.size))
      clear wuu
      generalize u.val = w9 at *
      have HN1 := Lib.hid (fun (v : Later w9) => HM1.out v.val (HW9.out.trans (v.prop.mono HW9.out.size)))
      have HN2 := Lib.hid (fun (v : Later w9) => HM2.out v.val (HW9.out.trans (v.prop.mono HW9.out.size)))
      have HN3 := Lib.hid (fun (v : Later w9) => HM3.out v.val (HW9.out.trans (v.prop.mono HW9.out.size)))
      have HNS := Lib.hid (fun (v : Later w9) => HSM.out v.val (HW9.out.trans (v.prop.mono HW9.out.size)))
      have f1 := fun (u : Later w9) => (row_loT 12 (g := gx) ((u.prop.block _ (block_lt HRY.out)).trans HRY.out) rfl rfl).1
      have f2 := fun (u : Later w9) => (row_loT 12 (g := gx) ((u.prop.block _ (block_lt HRY.out)).trans HRY.out) rfl rfl).2
      have f3 := fun (u : Later w9) => (row_loT 12 (g := w.heap.size) ((u.prop.block _ (block_lt HRA.out)).trans HRA.out) rfl rfl).1
      have f4 := fun (u : Later w9) => (row_loT 12 (g := w.heap.size) ((u.prop.block _ (block_lt HRA.out)).trans HRA.out) rfl rfl).2
      refine wp_region_later (by kernel_rfl) (by kernel_rfl) ?_
      repeat (go_big_quiet_step (first | (go_at_call 22; first | (with_reducible exact later_call (HN1.out _)) | (with_reducible exact later_call (HN3.out _)) | exact later_call (HN1.out _) | exact later_call (HN3.out _)) | (go_at_call 20; exact later_call (HN2.out _)) | (go_at_call 24; exact later_call (HON.out _)) | (go_at_call 23; exact later_call (HNS.out _)) | (go_at_call 12; exact later_call (known16_any _))))
      refine wpQuiet_nil ?_
      rintro w8 ⟨u', rfl⟩
      go_wp2
      go_ret
      exact ⟨rfl, HB.out.trans (u'.prop.mono HB.out.size)⟩
    case false =>
      have HN1 := Lib.hid (fun (u : Later wt) => HM1.out u.val u.prop)
      have HN2 := Lib.hid (fun (u : Later wt) => HM2.out u.val u.prop)
      have HN3 := Lib.hid (fun (u : Later wt) => HM3.out u.val u.prop)
      have HNS := Lib.hid (fun (u : Later wt) => HSM.out u.val u.prop)
      have f1 := fun (u : Later wt) => (row_loT 12 (g := gx) ((u.prop.block _ (block_lt HRY.out)).trans HRY.out) rfl rfl).1
      have f2 := fun (u : Later wt) => (row_loT 12 (g := gx) ((u.prop.block _ (block_lt HRY.out)).trans HRY.out) rfl rfl).2
      have f3 := fun (u : Later wt) => (row_loT 12 (g := w.heap.size) ((u.prop.block _ (block_lt HRA.out)).trans HRA.out) rfl rfl).1
      have f4 := fun (u : Later wt) => (row_loT 12 (g := w.heap.size) ((u.prop.block _ (block_lt HRA.out)).trans HRA.out) rfl rfl).2
      refine wp_region_later (by kernel_rfl) (by kernel_rfl) ?_
      repeat (go_big_quiet_step (first | (go_at_call 22; first | (with_reducible exact later_call (HN1.out _)) | (with_reducible exact later_call (HN3.out _)) | exact later_call (HN1.out _) | exact later_call (HN3.out _)) | (go_at_call 20; exact later_call (HN2.out _)) | (go_at_call 24; exact later_call (HON.out _)) | (go_at_call 23; exact later_call (HNS.out _)) | (go_at_call 12; exact later_call (known16_any _))))
      refine wpQuiet_nil ?_
      rintro w8 ⟨u, rfl⟩
      clear f1 f2 f3 f4
      go_upto_region 28 with fail
      have wuu := u.prop
      have HW9 := Lib.hid wuu
      clear HN1 HN2 HN3 HNS
      replace HRY := Lib.hid ((wuu.block _ (block_lt HRY.out)).trans HRY.out)
      replace HRA := Lib.hid ((wuu.block _ (block_lt HRA.out)).trans HRA.out)
      replace HB := Lib.hid (HB.out.trans (wuu.mono HB.out.size))
      clear wuu
      generalize u.val = w9 at *
      have HN1 := Lib.hid (fun (v : Later w9) => HM1.out v.val (HW9.out.trans (v.prop.mono HW9.out.size)))
      have HN2 := Lib.hid (fun (v : Later w9) => HM2.out v.val (HW9.out.trans (v.prop.mono HW9.out.size)))
      have HN3 := Lib.hid (fun (v : Later w9) => HM3.out v.val (HW9.out.trans (v.prop.mono HW9.out.size)))
      have HNS := Lib.hid (fun (v : Later w9) => HSM.out v.val (HW9.out.trans (v.prop.mono HW9.out.size)))
      have f1 := fun (u : Later w9) => (row_loT 12 (g := gx) ((u.prop.block _ (block_lt HRY.out)).trans HRY.out) rfl rfl).1
      have f2 := fun (u : Later w9) => (row_loT 12 (g := gx) ((u.prop.block _ (block_lt HRY.out)).trans HRY.out) rfl rfl).2
      have f3 := fun (u : Later w9) => (row_loT 12 (g := w.heap.size) ((u.prop.block _ (block_lt HRA.out)).trans HRA.out) rfl rfl).1
      have f4 := fun (u : Later w9) => (row_loT 12 (g := w.heap.size) ((u.prop.block _ (block_lt HRA.out)).trans HRA.out) rfl rfl).2
      refine wp_region_later (by kernel_rfl) (by kernel_rfl) ?_
      repeat (go_big_quiet_step (first | (go_at_call 22; first | (with_reducible exact later_call (HN1.out _)) | (with_reducible exact later_call (HN3.out _)) | exact later_call (HN1.out _) | exact later_call (HN3.out _)) | (go_at_call 20; exact later_call (HN2.out _)) | (go_at_call 24; exact later_call (HON.out _)) | (go_at_call 23; exact later_call (HNS.out _)) | (go_at_call 12; exact later_call (known16_any _))))
      refine wpQuiet_nil ?_
      rintro w8 ⟨u', rfl⟩
      go_wp2
      go_ret
      exact ⟨rfl, HB.out.trans (u'.prop.mono HB.out.size)⟩
  · go_upto_region 26 with fail
    clear hbx hgx hfz
    have hon := (Only.refl gx w5).setCell 9 (.int .i64 b.am)
    have hrx : (w5.setCell ⟨gx, 9, none⟩ (.int .i64 b.am)).heap[gx]? = _ := heap_setCell_same _ _ _ _ _ _ HRX.out
    replace HRA := Lib.hid ((hon.block _ (block_lt HRA.out) (by have := HNG.out; omega)).trans HRA.out)
    replace HOC := Lib.hid (recs_keep HOC.out (fun b hb hlt => hon.block b hlt (own_neT HOC.out HRX.out (by decide) b hb)))
    replace HOX := Lib.hid (recs_keep HOX.out (fun b hb hlt => hon.block b hlt (own_neT HOX.out HRX.out (by decide) b hb)))
    replace HB := Lib.hid (Only.below HB.out (by have := HNG.out; omega) HB.out.size hon)
    obtain ⟨Y, hY⟩ : ∃ Y : Rqt, Y = ({ a with am := b.am } : Rqt) := ⟨_, rfl⟩
    have HRY : Hid ((w5.setCell ⟨gx, 9, none⟩ (.int .i64 b.am)).heap[gx]? = some (.cells #[.string Y.key, .int .i64 Y.k, .int .i64 Y.d, .int .u64 Y.tk, .int .i64 Y.c, .int .i64 Y.st, .string Y.loc, .slice e1 a.cs.length g1, .slice e2 a.xs.length g2, .int .i64 Y.am, .int .i64 Y.fr, .int .i64 Y.tt] 57 (0, 0))) := Lib.hid (by rw [hY]; exact hrx)
    generalize (w5.setCell ⟨gx, 9, none⟩ (.int .i64 b.am)) = wt at *
    have HWY : Hid Y.wf := Lib.hid (by rw [hY]; exact ⟨HWA.out.key, HWA.out.loc, HWA.out.k, HWA.out.d, HWA.out.tk, HWA.out.c, HWA.out.st, HWB.out.am, HWA.out.fr, HWA.out.tt, HWA.out.cs, HWA.out.xs⟩)
    have HLC : Hid (LS Cpn.cells 6 wt (.slice e1 a.cs.length g1) Y.cs) := Lib.hid (by rw [hY]; exact LS.of_own HOC.out Cpn.cells_length (by decide))
    have HLX : Hid (LS Txx.cells 2 wt (.slice e2 a.xs.length g2) Y.xs) := Lib.hid (by rw [hY]; exact LS.of_own HOX.out Txx.cells_length (by decide))
    have HLN : Hid (Y.cs.length ≤ 40 ∧ Y.xs.length ≤ 40) := Lib.hid (by rw [hY]; exact ⟨HL1.out.1, HL1.out.2⟩)
    clear hY hrx hon HOC HOX HRB HRX
    obtain ⟨qy, hqy⟩ : ∃ t, Rq.rmayRq Y = t := ⟨_, rfl⟩
    have HM1 : Hid (∀ u, Below wt.heap.size wt u → Calls Tryz.prog 22 #[.agg #[.string Y.key, .int .i64 Y.k, .int .i64 Y.d, .int .u64 Y.tk, .int .i64 Y.c, .int .i64 Y.st, .string Y.loc, .slice e1 a.cs.length g1, .slice e2 a.xs.length g2, .int .i64 Y.am, .int .i64 Y.fr, .int .i64 Y.tt]] u fun e w' => e = .returned (.bool qy) ∧ Below u.heap.size u w') := Lib.hid (fun u hu => by have h := rqMayA_any Y HWY.out _ _ _ _ _ _ u (HLC.out.below hu) (HLX.out.below hu) (by have := HLN.out; omega) (by have := HLN.out; omega); rw [may_same, hqy] at h; exact h)
    have HM2 : Hid (∀ u, Below wt.heap.size wt u → Calls Tryz.prog 20 #[.agg #[.string Y.key, .int .i64 Y.k, .int .i64 Y.d, .int .u64 Y.tk, .int .i64 Y.c, .int .i64 Y.st, .string Y.loc, .slice e1 a.cs.length g1, .slice e2 a.xs.length g2, .int .i64 Y.am, .int .i64 Y.fr, .int .i64 Y.tt]] u fun e w' => e = .returned (.bool qy) ∧ Below u.heap.size u w') := Lib.hid (fun u hu => by have h := rMay16_any Y HWY.out _ _ _ _ _ _ u (HLC.out.below hu) (HLX.out.below hu); rw [hqy] at h; exact h)
    have HM3 : Hid (∀ u, Below wt.heap.size wt u → Calls Tryz.prog 22 #[.agg #[.string a.key, .int .i64 a.k, .int .i64 a.d, .int .u64 a.tk, .int .i64 a.c, .int .i64 a.st, .string a.loc, .slice p1 n1 z1, .slice p2 n2 z2, .int .i64 a.am, .int .i64 a.fr, .int .i64 a.tt]] u fun e w' => e = .returned (.bool true) ∧ Below u.heap.size u w') := Lib.hid (fun u hu => by have h := rqMayA_any a HWA.out p1 p2 n1 z1 n2 z2 u (HAC.out.below (HB.out.trans (hu.mono HB.out.size))) (HAX.out.below (HB.out.trans (hu.mono HB.out.size))) (by have := HL1.out; omega) (by have := HL1.out; omega); rw [may_same, HQM.out] at h; exact h)
    obtain ⟨o1, o2, on, oc, om, od, hoA, hoc, hox⟩ := only_form Y Y.k _ _ _ _ _ _ wt HLC.out HLX.out
    have HON := Lib.hid (fun (W : World) => hoA ▸ rOnly_any Y _ _ _ _ _ _ W)
    clear hoA
    obtain ⟨q7, hq7⟩ : ∃ t, eqRq Y (Rq.onlyX Y Y.k) = t := ⟨_, rfl⟩
    have HSM := Lib.hid (fun u (hu : Below wt.heap.size wt u) => rSame16_any Y (Rq.onlyX Y Y.k) _ _ o1 o2 _ _ _ _ on oc om od u (HLC.out.below hu) (HLX.out.below hu) (hoc _ hu) (hox _ hu) q7 (by rw [← hq7]; exact eqRq_iff Y _))
    have hq8 : qy = true → q7 = true := by intro h; rw [← hq7]; rw [h] at hqy; unfold Rq.rmayRq at hqy; simp only [Bool.and_eq_true] at hqy; exact hqy.2.2
    clear hqy hq7 hoc hox HAC HAX HBC HBX
    cases qy
    case true =>
      obtain rfl : q7 = true := hq8 rfl
      have HN1 := Lib.hid (fun (u : Later wt) => HM1.out u.val u.prop)
      have HN2 := Lib.hid (fun (u : Later wt) => HM2.out u.val u.prop)
      have HN3 := Lib.hid (fun (u : Later wt) => HM3.out u.val u.prop)
      have HNS := Lib.hid (fun (u : Later wt) => HSM.out u.val u.prop)
      have f1 := fun (u : Later wt) => (row_loT 12 (g := gx) ((u.prop.block _ (block_lt HRY.out)).trans HRY.out) rfl rfl).1
      have f2 := fun (u : Later wt) => (row_loT 12 (g := gx) ((u.prop.block _ (block_lt HRY.out)).trans HRY.out) rfl rfl).2
      have f3 := fun (u : Later wt) => (row_loT 12 (g := w.heap.size) ((u.prop.block _ (block_lt HRA.out)).trans HRA.out) rfl rfl).1
      have f4 := fun (u : Later wt) => (row_loT 12 (g := w.heap.size) ((u.prop.block _ (block_lt HRA.out)).trans HRA.out) rfl rfl).2
      refine wp_region_later (by kernel_rfl) (by kernel_rfl) ?_
      repeat (go_big_quiet_step (first | (go_at_call 22; first | (with_reducible exact later_call (HN1.out _)) | (with_reducible exact later_call (HN3.out _)) | exact later_call (HN1.out _) | exact later_call (HN3.out _)) | (go_at_call 20; exact later_call (HN2.out _)) | (go_at_call 24; exact later_call (HON.out _)) | (go_at_call 23; exact later_call (HNS.out _)) | (go_at_call 12; exact later_call (known16_any _))))
      refine wpQuiet_nil ?_
      rintro w8 ⟨u, rfl⟩
      clear f1 f2 f3 f4
      go_upto_region 28 with fail
      have wuu := u.prop
      have HW9 := Lib.hid wuu
      clear HN1 HN2 HN3 HNS
      replace HRY := Lib.hid ((wuu.block _ (block_lt HRY.out)).trans HRY.out)
      replace HRA := Lib.hid ((wuu.block _ (block_lt HRA.out)).trans HRA.out)
      replace HB := Lib.hid (HB.out.trans (wuu.mono HB.out.size))
      clear wuu
      generalize u.val = w9 at *
      have HN1 := Lib.hid (fun (v : Later w9) => HM1.out v.val (HW9.out.trans (v.prop.mono HW9.out.size)))
      have HN2 := Lib.hid (fun (v : Later w9) => HM2.out v.val (HW9.out.trans (v.prop.mono HW9.out.size)))
      have HN3 := Lib.hid (fun (v : Later w9) => HM3.out v.val (HW9.out.trans (v.prop.mono HW9.out.size)))
      have HNS := Lib.hid (fun (v : Later w9) => HSM.out v.val (HW9.out.trans (v.prop.mono HW9.out.size)))
      have f1 := fun (u : Later w9) => (row_loT 12 (g := gx) ((u.prop.block _ (block_lt HRY.out)).trans HRY.out) rfl rfl).1
      have f2 := fun (u : Later w9) => (row_loT 12 (g := gx) ((u.prop.block _ (block_lt HRY.out)).trans HRY.out) rfl rfl).2
      have f3 := fun (u : Later w9) => (row_loT 12 (g := w.heap.size) ((u.prop.block _ (block_lt HRA.out)).trans HRA.out) rfl rfl).1
      have f4 := fun (u : Later w9) => (row_loT 12 (g := w.heap.size) ((u.prop.block _ (block_lt HRA.out)).trans HRA.out) rfl rfl).2
      refine wp_region_later (by kernel_rfl) (by kernel_rfl) ?_
      repeat (go_big_quiet_step (first | (go_at_call 22; first | (with_reducible exact later_call (HN1.out _)) | (with_reducible exact later_call (HN3.out _)) | exact later_call (HN1.out _) | exact later_call (HN3.out _)) | (go_at_call 20; exact later_call (HN2.out _)) | (go_at_call 24; exact later_call (HON.out _)) | (go_at_call 23; exact later_call (HNS.out _)) | (go_at_call 12; exact later_call (known16_any _))))
      refine wpQuiet_nil ?_
      rintro w8 ⟨u', rfl⟩
      go_wp2
      go_ret
      exact ⟨rfl, HB.out.trans (u'.prop.mono HB.out.size)⟩
    case false =>
      have HN1 := Lib.hid (fun (u : Later wt) => HM1.out u.val u.prop)
      have HN2 := Lib.hid (fun (u : Later wt) => HM2.out u.val u.prop)
      have HN3 := Lib.hid (fun (u : Later wt) => HM3.out u.val u.prop)
      have HNS := Lib.hid (fun (u : Later wt) => HSM.out u.val u.prop)
      have f1 := fun (u : Later wt) => (row_loT 12 (g := gx) ((u.prop.block _ (block_lt HRY.out)).trans HRY.out) rfl rfl).1
      have f2 := fun (u : Later wt) => (row_loT 12 (g := gx) ((u.prop.block _ (block_lt HRY.out)).trans HRY.out) rfl rfl).2
      have f3 := fun (u : Later wt) => (row_loT 12 (g := w.heap.size) ((u.prop.block _ (block_lt HRA.out)).trans HRA.out) rfl rfl).1
      have f4 := fun (u : Later wt) => (row_loT 12 (g := w.heap.size) ((u.prop.block _ (block_lt HRA.out)).trans HRA.out) rfl rfl).2
      refine wp_region_later (by kernel_rfl) (by kernel_rfl) ?_
      repeat (go_big_quiet_step (first | (go_at_call 22; first | (with_reducible exact later_call (HN1.out _)) | (with_reducible exact later_call (HN3.out _)) | exact later_call (HN1.out _) | exact later_call (HN3.out _)) | (go_at_call 20; exact later_call (HN2.out _)) | (go_at_call 24; exact later_call (HON.out _)) | (go_at_call 23; exact later_call (HNS.out _)) | (go_at_call 12; exact later_call (known16_any _))))
      refine wpQuiet_nil ?_
      rintro w8 ⟨u, rfl⟩
      clear f1 f2 f3 f4
      go_upto_region 28 with fail
      have wuu := u.prop
      have HW9 := Lib.hid wuu
      clear HN1 HN2 HN3 HNS
      replace HRY := Lib.hid ((wuu.block _ (block_lt HRY.out)).trans HRY.out)
      replace HRA := Lib.hid ((wuu.block _ (block_lt HRA.out)).trans HRA.out)
      replace HB := Lib.hid (HB.out.trans (wuu.mono HB.out.size))
      clear wuu
      generalize u.val = w9 at *
      have HN1 := Lib.hid (fun (v : Later w9) => HM1.out v.val (HW9.out.trans (v.prop.mono HW9.out.size)))
      have HN2 := Lib.hid (fun (v : Later w9) => HM2.out v.val (HW9.out.trans (v.prop.mono HW9.out.size)))
      have HN3 := Lib.hid (fun (v : Later w9) => HM3.out v.val (HW9.out.trans (v.prop.mono HW9.out.size)))
      have HNS := Lib.hid (fun (v : Later w9) => HSM.out v.val (HW9.out.trans (v.prop.mono HW9.out.size)))
      have f1 := fun (u : Later w9) => (row_loT 12 (g := gx) ((u.prop.block _ (block_lt HRY.out)).trans HRY.out) rfl rfl).1
      have f2 := fun (u : Later w9) => (row_loT 12 (g := gx) ((u.prop.block _ (block_lt HRY.out)).trans HRY.out) rfl rfl).2
      have f3 := fun (u : Later w9) => (row_loT 12 (g := w.heap.size) ((u.prop.block _ (block_lt HRA.out)).trans HRA.out) rfl rfl).1
      have f4 := fun (u : Later w9) => (row_loT 12 (g := w.heap.size) ((u.prop.block _ (block_lt HRA.out)).trans HRA.out) rfl rfl).2
      refine wp_region_later (by kernel_rfl) (by kernel_rfl) ?_
      repeat (go_big_quiet_step (first | (go_at_call 22; first | (with_reducible exact later_call (HN1.out _)) | (with_reducible exact later_call (HN3.out _)) | exact later_call (HN1.out _) | exact later_call (HN3.out _)) | (go_at_call 20; exact later_call (HN2.out _)) | (go_at_call 24; exact later_call (HON.out _)) | (go_at_call 23; exact later_call (HNS.out _)) | (go_at_call 12; exact later_call (known16_any _))))
      refine wpQuiet_nil ?_
      rintro w8 ⟨u', rfl⟩
      go_wp2
      go_ret
      exact ⟨rfl, HB.out.trans (u'.prop.mono HB.out.size)⟩
  · go_upto_region 26 with fail
    clear hbx hgx hfz
    have hon := (Only.refl gx w5).setCell 10 (.int .i64 b.fr)
    have hrx : (w5.setCell ⟨gx, 10, none⟩ (.int .i64 b.fr)).heap[gx]? = _ := heap_setCell_same _ _ _ _ _ _ HRX.out
    replace HRA := Lib.hid ((hon.block _ (block_lt HRA.out) (by have := HNG.out; omega)).trans HRA.out)
    replace HOC := Lib.hid (recs_keep HOC.out (fun b hb hlt => hon.block b hlt (own_neT HOC.out HRX.out (by decide) b hb)))
    replace HOX := Lib.hid (recs_keep HOX.out (fun b hb hlt => hon.block b hlt (own_neT HOX.out HRX.out (by decide) b hb)))
    replace HB := Lib.hid (Only.below HB.out (by have := HNG.out; omega) HB.out.size hon)
    obtain ⟨Y, hY⟩ : ∃ Y : Rqt, Y = ({ a with fr := b.fr } : Rqt) := ⟨_, rfl⟩
    have HRY : Hid ((w5.setCell ⟨gx, 10, none⟩ (.int .i64 b.fr)).heap[gx]? = some (.cells #[.string Y.key, .int .i64 Y.k, .int .i64 Y.d, .int .u64 Y.tk, .int .i64 Y.c, .int .i64 Y.st, .string Y.loc, .slice e1 a.cs.length g1, .slice e2 a.xs.length g2, .int .i64 Y.am, .int .i64 Y.fr, .int .i64 Y.tt] 57 (0, 0))) := Lib.hid (by rw [hY]; exact hrx)
    generalize (w5.setCell ⟨gx, 10, none⟩ (.int .i64 b.fr)) = wt at *
    have HWY : Hid Y.wf := Lib.hid (by rw [hY]; exact ⟨HWA.out.key, HWA.out.loc, HWA.out.k, HWA.out.d, HWA.out.tk, HWA.out.c, HWA.out.st, HWA.out.am, HWB.out.fr, HWA.out.tt, HWA.out.cs, HWA.out.xs⟩)
    have HLC : Hid (LS Cpn.cells 6 wt (.slice e1 a.cs.length g1) Y.cs) := Lib.hid (by rw [hY]; exact LS.of_own HOC.out Cpn.cells_length (by decide))
    have HLX : Hid (LS Txx.cells 2 wt (.slice e2 a.xs.length g2) Y.xs) := Lib.hid (by rw [hY]; exact LS.of_own HOX.out Txx.cells_length (by decide))
    have HLN : Hid (Y.cs.length ≤ 40 ∧ Y.xs.length ≤ 40) := Lib.hid (by rw [hY]; exact ⟨HL1.out.1, HL1.out.2⟩)
    clear hY hrx hon HOC HOX HRB HRX
    obtain ⟨qy, hqy⟩ : ∃ t, Rq.rmayRq Y = t := ⟨_, rfl⟩
    have HM1 : Hid (∀ u, Below wt.heap.size wt u → Calls Tryz.prog 22 #[.agg #[.string Y.key, .int .i64 Y.k, .int .i64 Y.d, .int .u64 Y.tk, .int .i64 Y.c, .int .i64 Y.st, .string Y.loc, .slice e1 a.cs.length g1, .slice e2 a.xs.length g2, .int .i64 Y.am, .int .i64 Y.fr, .int .i64 Y.tt]] u fun e w' => e = .returned (.bool qy) ∧ Below u.heap.size u w') := Lib.hid (fun u hu => by have h := rqMayA_any Y HWY.out _ _ _ _ _ _ u (HLC.out.below hu) (HLX.out.below hu) (by have := HLN.out; omega) (by have := HLN.out; omega); rw [may_same, hqy] at h; exact h)
    have HM2 : Hid (∀ u, Below wt.heap.size wt u → Calls Tryz.prog 20 #[.agg #[.string Y.key, .int .i64 Y.k, .int .i64 Y.d, .int .u64 Y.tk, .int .i64 Y.c, .int .i64 Y.st, .string Y.loc, .slice e1 a.cs.length g1, .slice e2 a.xs.length g2, .int .i64 Y.am, .int .i64 Y.fr, .int .i64 Y.tt]] u fun e w' => e = .returned (.bool qy) ∧ Below u.heap.size u w') := Lib.hid (fun u hu => by have h := rMay16_any Y HWY.out _ _ _ _ _ _ u (HLC.out.below hu) (HLX.out.below hu); rw [hqy] at h; exact h)
    have HM3 : Hid (∀ u, Below wt.heap.size wt u → Calls Tryz.prog 22 #[.agg #[.string a.key, .int .i64 a.k, .int .i64 a.d, .int .u64 a.tk, .int .i64 a.c, .int .i64 a.st, .string a.loc, .slice p1 n1 z1, .slice p2 n2 z2, .int .i64 a.am, .int .i64 a.fr, .int .i64 a.tt]] u fun e w' => e = .returned (.bool true) ∧ Below u.heap.size u w') := Lib.hid (fun u hu => by have h := rqMayA_any a HWA.out p1 p2 n1 z1 n2 z2 u (HAC.out.below (HB.out.trans (hu.mono HB.out.size))) (HAX.out.below (HB.out.trans (hu.mono HB.out.size))) (by have := HL1.out; omega) (by have := HL1.out; omega); rw [may_same, HQM.out] at h; exact h)
    obtain ⟨o1, o2, on, oc, om, od, hoA, hoc, hox⟩ := only_form Y Y.k _ _ _ _ _ _ wt HLC.out HLX.out
    have HON := Lib.hid (fun (W : World) => hoA ▸ rOnly_any Y _ _ _ _ _ _ W)
    clear hoA
    obtain ⟨q7, hq7⟩ : ∃ t, eqRq Y (Rq.onlyX Y Y.k) = t := ⟨_, rfl⟩
    have HSM := Lib.hid (fun u (hu : Below wt.heap.size wt u) => rSame16_any Y (Rq.onlyX Y Y.k) _ _ o1 o2 _ _ _ _ on oc om od u (HLC.out.below hu) (HLX.out.below hu) (hoc _ hu) (hox _ hu) q7 (by rw [← hq7]; exact eqRq_iff Y _))
    have hq8 : qy = true → q7 = true := by intro h; rw [← hq7]; rw [h] at hqy; unfold Rq.rmayRq at hqy; simp only [Bool.and_eq_true] at hqy; exact hqy.2.2
    clear hqy hq7 hoc hox HAC HAX HBC HBX
    cases qy
    case true =>
      obtain rfl : q7 = true := hq8 rfl
      have HN1 := Lib.hid (fun (u : Later wt) => HM1.out u.val u.prop)
      have HN2 := Lib.hid (fun (u : Later wt) => HM2.out u.val u.prop)
      have HN3 := Lib.hid (fun (u : Later wt) => HM3.out u.val u.prop)
      have HNS := Lib.hid (fun (u : Later wt) => HSM.out u.val u.prop)
      have f1 := fun (u : Later wt) => (row_loT 12 (g := gx) ((u.prop.block _ (block_lt HRY.out)).trans HRY.out) rfl rfl).1
      have f2 := fun (u : Later wt) => (row_loT 12 (g := gx) ((u.prop.block _ (block_lt HRY.out)).trans HRY.out) rfl rfl).2
      have f3 := fun (u : Later wt) => (row_loT 12 (g := w.heap.size) ((u.prop.block _ (block_lt HRA.out)).trans HRA.out) rfl rfl).1
      have f4 := fun (u : Later wt) => (row_loT 12 (g := w.heap.size) ((u.prop.block _ (block_lt HRA.out)).trans HRA.out) rfl rfl).2
      refine wp_region_later (by kernel_rfl) (by kernel_rfl) ?_
      repeat (go_big_quiet_step (first | (go_at_call 22; first | (with_reducible exact later_call (HN1.out _)) | (with_reducible exact later_call (HN3.out _)) | exact later_call (HN1.out _) | exact later_call (HN3.out _)) | (go_at_call 20; exact later_call (HN2.out _)) | (go_at_call 24; exact later_call (HON.out _)) | (go_at_call 23; exact later_call (HNS.out _)) | (go_at_call 12; exact later_call (known16_any _))))
      refine wpQuiet_nil ?_
      rintro w8 ⟨u, rfl⟩
      clear f1 f2 f3 f4
      go_upto_region 28 with fail
      have wuu := u.prop
      have HW9 := Lib.hid wuu
      clear HN1 HN2 HN3 HNS
      replace HRY := Lib.hid ((wuu.block _ (block_lt HRY.out)).trans HRY.out)
      replace HRA := Lib.hid ((wuu.block _ (block_lt HRA.out)).trans HRA.out)
      replace HB := Lib.hid (HB.out.trans (wuu.mono HB.out.size))
      clear wuu
      generalize u.val = w9 at *
      have HN1 := Lib.hid (fun (v : Later w9) => HM1.out v.val (HW9.out.trans (v.prop.mono HW9.out.size)))
      have HN2 := Lib.hid (fun (v : Later w9) => HM2.out v.val (HW9.out.trans (v.prop.mono HW9.out.size)))
      have HN3 := Lib.hid (fun (v : Later w9) => HM3.out v.val (HW9.out.trans (v.prop.mono HW9.out.size)))
      have HNS := Lib.hid (fun (v : Later w9) => HSM.out v.val (HW9.out.trans (v.prop.mono HW9.out.size)))
      have f1 := fun (u : Later w9) => (row_loT 12 (g := gx) ((u.prop.block _ (block_lt HRY.out)).trans HRY.out) rfl rfl).1
      have f2 := fun (u : Later w9) => (row_loT 12 (g := gx) ((u.prop.block _ (block_lt HRY.out)).trans HRY.out) rfl rfl).2
      have f3 := fun (u : Later w9) => (row_loT 12 (g := w.heap.size) ((u.prop.block _ (block_lt HRA.out)).trans HRA.out) rfl rfl).1
      have f4 := fun (u : Later w9) => (row_loT 12 (g := w.heap.size) ((u.prop.block _ (block_lt HRA.out)).trans HRA.out) rfl rfl).2
      refine wp_region_later (by kernel_rfl) (by kernel_rfl) ?_
      repeat (go_big_quiet_step (first | (go_at_call 22; first | (with_reducible exact later_call (HN1.out _)) | (with_reducible exact later_call (HN3.out _)) | exact later_call (HN1.out _) | exact later_call (HN3.out _)) | (go_at_call 20; exact later_call (HN2.out _)) | (go_at_call 24; exact later_call (HON.out _)) | (go_at_call 23; exact later_call (HNS.out _)) | (go_at_call 12; exact later_call (known16_any _))))
      refine wpQuiet_nil ?_
      rintro w8 ⟨u', rfl⟩
      go_wp2
      go_ret
      exact ⟨rfl, HB.out.trans (u'.prop.mono HB.out.size)⟩
    case false =>
      have HN1 := Lib.hid (fun (u : Later wt) => HM1.out u.val u.prop)
      have HN2 := Lib.hid (fun (u : Later wt) => HM2.out u.val u.prop)
      have HN3 := Lib.hid (fun (u : Later wt) => HM3.out u.val u.prop)
      have HNS := Lib.hid (fun (u : Later wt) => HSM.out u.val u.prop)
      have f1 := fun (u : Later wt) => (row_loT 12 (g := gx) ((u.prop.block _ (block_lt HRY.out)).trans HRY.out) rfl rfl).1
      have f2 := fun (u : Later wt) => (row_loT 12 (g := gx) ((u.prop.block _ (block_lt HRY.out)).trans HRY.out) rfl rfl).2
      have f3 := fun (u : Later wt) => (row_loT 12 (g := w.heap.size) ((u.prop.block _ (block_lt HRA.out)).trans HRA.out) rfl rfl).1
      have f4 := fun (u : Later wt) => (row_loT 12 (g := w.heap.size) ((u.prop.block _ (block_lt HRA.out)).trans HRA.out) rfl rfl).2
      refine wp_region_later (by kernel_rfl) (by kernel_rfl) ?_
      repeat (go_big_quiet_step (first | (go_at_call 22; first | (with_reducible exact later_call (HN1.out _)) | (with_reducible exact later_call (HN3.out _)) | exact later_call (HN1.out _) | exact later_call (HN3.out _)) | (go_at_call 20; exact later_call (HN2.out _)) | (go_at_call 24; exact later_call (HON.out _)) | (go_at_call 23; exact later_call (HNS.out _)) | (go_at_call 12; exact later_call (known16_any _))))
      refine wpQuiet_nil ?_
      rintro w8 ⟨u, rfl⟩
      clear f1 f2 f3 f4
      go_upto_region 28 with fail
      have wuu := u.prop
      have HW9 := Lib.hid wuu
      clear HN1 HN2 HN3 HNS
      replace HRY := Lib.hid ((wuu.block _ (block_lt HRY.out)).trans HRY.out)
      replace HRA := Lib.hid ((wuu.block _ (block_lt HRA.out)).trans HRA.out)
      replace HB := Lib.hid (HB.out.trans (wuu.mono HB.out.size))
      clear wuu
      generalize u.val = w9 at *
      have HN1 := Lib.hid (fun (v : Later w9) => HM1.out v.val (HW9.out.trans (v.prop.mono HW9.out.size)))
      have HN2 := Lib.hid (fun (v : Later w9) => HM2.out v.val (HW9.out.trans (v.prop.mono HW9.out.size)))
      have HN3 := Lib.hid (fun (v : Later w9) => HM3.out v.val (HW9.out.trans (v.prop.mono HW9.out.size)))
      have HNS := Lib.hid (fun (v : Later w9) => HSM.out v.val (HW9.out.trans (v.prop.mono HW9.out.size)))
      have f1 := fun (u : Later w9) => (row_loT 12 (g := gx) ((u.prop.block _ (block_lt HRY.out)).trans HRY.out) rfl rfl).1
      have f2 := fun (u : Later w9) => (row_loT 12 (g := gx) ((u.prop.block _ (block_lt HRY.out)).trans HRY.out) rfl rfl).2
      have f3 := fun (u : Later w9) => (row_loT 12 (g := w.heap.size) ((u.prop.block _ (block_lt HRA.out)).trans HRA.out) rfl rfl).1
      have f4 := fun (u : Later w9) => (row_loT 12 (g := w.heap.size) ((u.prop.block _ (block_lt HRA.out)).trans HRA.out) rfl rfl).2
      refine wp_region_later (by kernel_rfl) (by kernel_rfl) ?_
      repeat (go_big_quiet_step (first | (go_at_call 22; first | (with_reducible exact later_call (HN1.out _)) | (with_reducible exact later_call (HN3.out _)) | exact later_call (HN1.out _) | exact later_call (HN3.out _)) | (go_at_call 20; exact later_call (HN2.out _)) | (go_at_call 24; exact later_call (HON.out _)) | (go_at_call 23; exact later_call (HNS.out _)) | (go_at_call 12; exact later_call (known16_any _))))
      refine wpQuiet_nil ?_
      rintro w8 ⟨u', rfl⟩
      go_wp2
      go_ret
      exact ⟨rfl, HB.out.trans (u'.prop.mono HB.out.size)⟩
  · go_upto_region 26 with fail
    clear hbx hgx hfz
    have hon := (Only.refl gx w5).setCell 11 (.int .i64 b.tt)
    have hrx : (w5.setCell ⟨gx, 11, none⟩ (.int .i64 b.tt)).heap[gx]? = _ := heap_setCell_same _ _ _ _ _ _ HRX.out
    replace HRA := Lib.hid ((hon.block _ (block_lt HRA.out) (by have := HNG.out; omega)).trans HRA.out)
    replace HOC := Lib.hid (recs_keep HOC.out (fun b hb hlt => hon.block b hlt (own_neT HOC.out HRX.out (by decide) b hb)))
    replace HOX := Lib.hid (recs_keep HOX.out (fun b hb hlt => hon.block b hlt (own_neT HOX.out HRX.out (by decide) b hb)))
    replace HB := Lib.hid (Only.below HB.out (by have := HNG.out; omega) HB.out.size hon)
    obtain ⟨Y, hY⟩ : ∃ Y : Rqt, Y = ({ a with tt := b.tt } : Rqt) := ⟨_, rfl⟩
    have HRY : Hid ((w5.setCell ⟨gx, 11, none⟩ (.int .i64 b.tt)).heap[gx]? = some (.cells #[.string Y.key, .int .i64 Y.k, .int .i64 Y.d, .int .u64 Y.tk, .int .i64 Y.c, .int .i64 Y.st, .string Y.loc, .slice e1 a.cs.length g1, .slice e2 a.xs.length g2, .int .i64 Y.am, .int .i64 Y.fr, .int .i64 Y.tt] 57 (0, 0))) := Lib.hid (by rw [hY]; exact hrx)
    generalize (w5.setCell ⟨gx, 11, none⟩ (.int .i64 b.tt)) = wt at *
    have HWY : Hid Y.wf := Lib.hid (by rw [hY]; exact ⟨HWA.out.key, HWA.out.loc, HWA.out.k, HWA.out.d, HWA.out.tk, HWA.out.c, HWA.out.st, HWA.out.am, HWA.out.fr, HWB.out.tt, HWA.out.cs, HWA.out.xs⟩)
    have HLC : Hid (LS Cpn.cells 6 wt (.slice e1 a.cs.length g1) Y.cs) := Lib.hid (by rw [hY]; exact LS.of_own HOC.out Cpn.cells_length (by decide))
    have HLX : Hid (LS Txx.cells 2 wt (.slice e2 a.xs.length g2) Y.xs) := Lib.hid (by rw [hY]; exact LS.of_own HOX.out Txx.cells_length (by decide))
    have HLN : Hid (Y.cs.length ≤ 40 ∧ Y.xs.length ≤ 40) := Lib.hid (by rw [hY]; exact ⟨HL1.out.1, HL1.out.2⟩)
    clear hY hrx hon HOC HOX HRB HRX
    obtain ⟨qy, hqy⟩ : ∃ t, Rq.rmayRq Y = t := ⟨_, rfl⟩
    have HM1 : Hid (∀ u, Below wt.heap.size wt u → Calls Tryz.prog 22 #[.agg #[.string Y.key, .int .i64 Y.k, .int .i64 Y.d, .int .u64 Y.tk, .int .i64 Y.c, .int .i64 Y.st, .string Y.loc, .slice e1 a.cs.length g1, .slice e2 a.xs.length g2, .int .i64 Y.am, .int .i64 Y.fr, .int .i64 Y.tt]] u fun e w' => e = .returned (.bool qy) ∧ Below u.heap.size u w') := Lib.hid (fun u hu => by have h := rqMayA_any Y HWY.out _ _ _ _ _ _ u (HLC.out.below hu) (HLX.out.below hu) (by have := HLN.out; omega) (by have := HLN.out; omega); rw [may_same, hqy] at h; exact h)
    have HM2 : Hid (∀ u, Below wt.heap.size wt u → Calls Tryz.prog 20 #[.agg #[.string Y.key, .int .i64 Y.k, .int .i64 Y.d, .int .u64 Y.tk, .int .i64 Y.c, .int .i64 Y.st, .string Y.loc, .slice e1 a.cs.length g1, .slice e2 a.xs.length g2, .int .i64 Y.am, .int .i64 Y.fr, .int .i64 Y.tt]] u fun e w' => e = .returned (.bool qy) ∧ Below u.heap.size u w') := Lib.hid (fun u hu => by have h := rMay16_any Y HWY.out _ _ _ _ _ _ u (HLC.out.below hu) (HLX.out.below hu); rw [hqy] at h; exact h)
    have HM3 : Hid (∀ u, Below wt.heap.size wt u → Calls Tryz.prog 22 #[.agg #[.string a.key, .int .i64 a.k, .int .i64 a.d, .int .u64 a.tk, .int .i64 a.c, .int .i64 a.st, .string a.loc, .slice p1 n1 z1, .slice p2 n2 z2, .int .i64 a.am, .int .i64 a.fr, .int .i64 a.tt]] u fun e w' => e = .returned (.bool true) ∧ Below u.heap.size u w') := Lib.hid (fun u hu => by have h := rqMayA_any a HWA.out p1 p2 n1 z1 n2 z2 u (HAC.out.below (HB.out.trans (hu.mono HB.out.size))) (HAX.out.below (HB.out.trans (hu.mono HB.out.size))) (by have := HL1.out; omega) (by have := HL1.out; omega); rw [may_same, HQM.out] at h; exact h)
    obtain ⟨o1, o2, on, oc, om, od, hoA, hoc, hox⟩ := only_form Y Y.k _ _ _ _ _ _ wt HLC.out HLX.out
    have HON := Lib.hid (fun (W : World) => hoA ▸ rOnly_any Y _ _ _ _ _ _ W)
    clear hoA
    obtain ⟨q7, hq7⟩ : ∃ t, eqRq Y (Rq.onlyX Y Y.k) = t := ⟨_, rfl⟩
    have HSM := Lib.hid (fun u (hu : Below wt.heap.size wt u) => rSame16_any Y (Rq.onlyX Y Y.k) _ _ o1 o2 _ _ _ _ on oc om od u (HLC.out.below hu) (HLX.out.below hu) (hoc _ hu) (hox _ hu) q7 (by rw [← hq7]; exact eqRq_iff Y _))
    have hq8 : qy = true → q7 = true := by intro h; rw [← hq7]; rw [h] at hqy; unfold Rq.rmayRq at hqy; simp only [Bool.and_eq_true] at hqy; exact hqy.2.2
    clear hqy hq7 hoc hox HAC HAX HBC HBX
    cases qy
    case true =>
      obtain rfl : q7 = true := hq8 rfl
      have HN1 := Lib.hid (fun (u : Later wt) => HM1.out u.val u.prop)
      have HN2 := Lib.hid (fun (u : Later wt) => HM2.out u.val u.prop)
      have HN3 := Lib.hid (fun (u : Later wt) => HM3.out u.val u.prop)
      have HNS := Lib.hid (fun (u : Later wt) => HSM.out u.val u.prop)
      have f1 := fun (u : Later wt) => (row_loT 12 (g := gx) ((u.prop.block _ (block_lt HRY.out)).trans HRY.out) rfl rfl).1
      have f2 := fun (u : Later wt) => (row_loT 12 (g := gx) ((u.prop.block _ (block_lt HRY.out)).trans HRY.out) rfl rfl).2
      have f3 := fun (u : Later wt) => (row_loT 12 (g := w.heap.size) ((u.prop.block _ (block_lt HRA.out)).trans HRA.out) rfl rfl).1
      have f4 := fun (u : Later wt) => (row_loT 12 (g := w.heap.size) ((u.prop.block _ (block_lt HRA.out)).trans HRA.out) rfl rfl).2
      refine wp_region_later (by kernel_rfl) (by kernel_rfl) ?_
      repeat (go_big_quiet_step (first | (go_at_call 22; first | (with_reducible exact later_call (HN1.out _)) | (with_reducible exact later_call (HN3.out _)) | exact later_call (HN1.out _) | exact later_call (HN3.out _)) | (go_at_call 20; exact later_call (HN2.out _)) | (go_at_call 24; exact later_call (HON.out _)) | (go_at_call 23; exact later_call (HNS.out _)) | (go_at_call 12; exact later_call (known16_any _))))
      refine wpQuiet_nil ?_
      rintro w8 ⟨u, rfl⟩
      clear f1 f2 f3 f4
      go_upto_region 28 with fail
      have wuu := u.prop
      have HW9 := Lib.hid wuu
      clear HN1 HN2 HN3 HNS
      replace HRY := Lib.hid ((wuu.block _ (block_lt HRY.out)).trans HRY.out)
      replace HRA := Lib.hid ((wuu.block _ (block_lt HRA.out)).trans HRA.out)
      replace HB := Lib.hid (HB.out.trans (wuu.mono HB.out.size))
      clear wuu
      generalize u.val = w9 at *
      have HN1 := Lib.hid (fun (v : Later w9) => HM1.out v.val (HW9.out.trans (v.prop.mono HW9.out.size)))
      have HN2 := Lib.hid (fun (v : Later w9) => HM2.out v.val (HW9.out.trans (v.prop.mono HW9.out.size)))
      have HN3 := Lib.hid (fun (v : Later w9) => HM3.out v.val (HW9.out.trans (v.prop.mono HW9.out.size)))
      have HNS := Lib.hid (fun (v : Later w9) => HSM.out v.val (HW9.out.trans (v.prop.mono HW9.out.size)))
      have f1 := fun (u : Later w9) => (row_loT 12 (g := gx) ((u.prop.block _ (block_lt HRY.out)).trans HRY.out) rfl rfl).1
      have f2 := fun (u : Later w9) => (row_loT 12 (g := gx) ((u.prop.block _ (block_lt HRY.out)).trans HRY.out) rfl rfl).2
      have f3 := fun (u : Later w9) => (row_loT 12 (g := w.heap.size) ((u.prop.block _ (block_lt HRA.out)).trans HRA.out) rfl rfl).1
      have f4 := fun (u : Later w9) => (row_loT 12 (g := w.heap.size) ((u.prop.block _ (block_lt HRA.out)).trans HRA.out) rfl rfl).2
      refine wp_region_later (by kernel_rfl) (by kernel_rfl) ?_
      repeat (go_big_quiet_step (first | (go_at_call 22; first | (with_reducible exact later_call (HN1.out _)) | (with_reducible exact later_call (HN3.out _)) | exact later_call (HN1.out _) | exact later_call (HN3.out _)) | (go_at_call 20; exact later_call (HN2.out _)) | (go_at_call 24; exact later_call (HON.out _)) | (go_at_call 23; exact later_call (HNS.out _)) | (go_at_call 12; exact later_call (known16_any _))))
      refine wpQuiet_nil ?_
      rintro w8 ⟨u', rfl⟩
      go_wp2
      go_ret
      exact ⟨rfl, HB.out.trans (u'.prop.mono HB.out.size)⟩
    case false =>
      have HN1 := Lib.hid (fun (u : Later wt) => HM1.out u.val u.prop)
      have HN2 := Lib.hid (fun (u : Later wt) => HM2.out u.val u.prop)
      have HN3 := Lib.hid (fun (u : Later wt) => HM3.out u.val u.prop)
      have HNS := Lib.hid (fun (u : Later wt) => HSM.out u.val u.prop)
      have f1 := fun (u : Later wt) => (row_loT 12 (g := gx) ((u.prop.block _ (block_lt HRY.out)).trans HRY.out) rfl rfl).1
      have f2 := fun (u : Later wt) => (row_loT 12 (g := gx) ((u.prop.block _ (block_lt HRY.out)).trans HRY.out) rfl rfl).2
      have f3 := fun (u : Later wt) => (row_loT 12 (g := w.heap.size) ((u.prop.block _ (block_lt HRA.out)).trans HRA.out) rfl rfl).1
      have f4 := fun (u : Later wt) => (row_loT 12 (g := w.heap.size) ((u.prop.block _ (block_lt HRA.out)).trans HRA.out) rfl rfl).2
      refine wp_region_later (by kernel_rfl) (by kernel_rfl) ?_
      repeat (go_big_quiet_step (first | (go_at_call 22; first | (with_reducible exact later_call (HN1.out _)) | (with_reducible exact later_call (HN3.out _)) | exact later_call (HN1.out _) | exact later_call (HN3.out _)) | (go_at_call 20; exact later_call (HN2.out _)) | (go_at_call 24; exact later_call (HON.out _)) | (go_at_call 23; exact later_call (HNS.out _)) | (go_at_call 12; exact later_call (known16_any _))))
      refine wpQuiet_nil ?_
      rintro w8 ⟨u, rfl⟩
      clear f1 f2 f3 f4
      go_upto_region 28 with fail
      have wuu := u.prop
      have HW9 := Lib.hid wuu
      clear HN1 HN2 HN3 HNS
      replace HRY := Lib.hid ((wuu.block _ (block_lt HRY.out)).trans HRY.out)
      replace HRA := Lib.hid ((wuu.block _ (block_lt HRA.out)).trans HRA.out)
      replace HB := Lib.hid (HB.out.trans (wuu.mono HB.out.size))
      clear wuu
      generalize u.val = w9 at *
      have HN1 := Lib.hid (fun (v : Later w9) => HM1.out v.val (HW9.out.trans (v.prop.mono HW9.out.size)))
      have HN2 := Lib.hid (fun (v : Later w9) => HM2.out v.val (HW9.out.trans (v.prop.mono HW9.out.size)))
      have HN3 := Lib.hid (fun (v : Later w9) => HM3.out v.val (HW9.out.trans (v.prop.mono HW9.out.size)))
      have HNS := Lib.hid (fun (v : Later w9) => HSM.out v.val (HW9.out.trans (v.prop.mono HW9.out.size)))
      have f1 := fun (u : Later w9) => (row_loT 12 (g := gx) ((u.prop.block _ (block_lt HRY.out)).trans HRY.out) rfl rfl).1
      have f2 := fun (u : Later w9) => (row_loT 12 (g := gx) ((u.prop.block _ (block_lt HRY.out)).trans HRY.out) rfl rfl).2
      have f3 := fun (u : Later w9) => (row_loT 12 (g := w.heap.size) ((u.prop.block _ (block_lt HRA.out)).trans HRA.out) rfl rfl).1
      have f4 := fun (u : Later w9) => (row_loT 12 (g := w.heap.size) ((u.prop.block _ (block_lt HRA.out)).trans HRA.out) rfl rfl).2
      refine wp_region_later (by kernel_rfl) (by kernel_rfl) ?_
      repeat (go_big_quiet_step (first | (go_at_call 22; first | (with_reducible exact later_call (HN1.out _)) | (with_reducible exact later_call (HN3.out _)) | exact later_call (HN1.out _) | exact later_call (HN3.out _)) | (go_at_call 20; exact later_call (HN2.out _)) | (go_at_call 24; exact later_call (HON.out _)) | (go_at_call 23; exact later_call (HNS.out _)) | (go_at_call 12; exact later_call (known16_any _))))
      refine wpQuiet_nil ?_
      rintro w8 ⟨u', rfl⟩
      go_wp2
      go_ret
      exact ⟨rfl, HB.out.trans (u'.prop.mono HB.out.size)⟩
set_option maxRecDepth 100000 in
theorem lifted (os : Os) (started : os.Started) (H : Type) (enc : TypeId × Value → H) :
    ReturnsInHanded {} Tryz.checked os 5 .any (Rows.requestNamesSpec.pre6 enc Tryz.prog Tryz.f5 Rows.requestNamesRow.domain false) (Rows.requestNamesSpec.post enc Tryz.prog Tryz.f5 false true false false) := by
  refine returnsInHanded_of_change (C := Tryz.checked) own started (by kernel_rfl) Tryz.func5
    (ChangeSpec.witness6 (enc := enc) (C := Tryz.checked) false ⟨#[], #[.agg #[.string ByteArray.empty, .int .i64 0, .int .i64 0, .int .u64 0, .int .i64 0, .int .i64 0, .string ByteArray.empty, .slice none 0 0, .slice none 0 0, .int .i64 0, .int .i64 0, .int .i64 0], .agg #[.string ByteArray.empty, .int .i64 0, .int .i64 0, .int .u64 0, .int .i64 0, .int .i64 0, .string ByteArray.empty, .slice none 0 0, .slice none 0 0, .int .i64 0, .int .i64 0, .int .i64 0], .int .i64 0], []⟩ 8 (by kernel_rfl) (by kernel_rfl) (by kernel_rfl) (by kernel_rfl)) ?_
  intro W base args ds gs before hval0 hW hcnd _
  have hval : ∀ (j : Nat) t v, Tryz.f5.params[j]? = some t → args[j]? = some v → Value.okWide Tryz.prog W .any base t v := hval0
  have hW' := hW
  obtain ⟨p, q, hA0, hV, rfl, hfz, hnd⟩ := hW
  have hA : DataW.TrodAll enc Tryz.prog W 0 (fun _ => true) true Tryz.f5.params.toList args.toList ds p := hA0
  rw [Tryz.params5] at hA hval
  obtain ⟨v0, vs0, d0, ds0, p0, q0, hargs, rfl, rfl, h0, r0⟩ := trodAll_cons hA
  obtain ⟨v1, vs1, d1, ds1, p1, q1, rfl, rfl, rfl, h1, r1⟩ := trodAll_cons r0
  obtain ⟨v2, vs2, d2, ds2, p2, q2, rfl, rfl, rfl, h2, r2⟩ := trodAll_cons r1
  obtain ⟨rfl, rfl, rfl⟩ := trodAll_nil r2
  obtain rfl : args = #[v0, v1, v2] := by cases args; simp_all
  obtain ⟨a, p1, p2, n1, z1, n2, z2, rfl, hac, hax, haw⟩ := open_request (hval 0 _ v0 rfl rfl) h0
  obtain ⟨b, s1, s2, m1, y1, m2, y2, rfl, hbc, hbx, hbw⟩ := open_request (hval 1 _ v1 rfl rfl) h1
  obtain ⟨z, rfl, rfl, rfl, wz⟩ := open_int Tryz.underlying3 (hval 2 3 v2 rfl rfl) h2
  clear hA0 hval0
  refine (walk a p1 p2 n1 z1 n2 z2 b s1 s2 m1 y1 m2 y2 z W hac hax haw hbc hbx hbw).mono fun e W' ⟨he, hg⟩ => ?_
  subst he
  exact ⟨_, rfl, post_law laidOut rfl hW' ⟨rfl, rfl, rfl⟩ (by kernel_rfl) hg Tryz.underlying4 rfl⟩

theorem proved : Rows.RequestNamesSaid :=
  OpenClaim.holds_of_wide 5 Tryz.f5 rfl rfl rfl rfl rfl rfl rfl ⟨rfl, rfl, rfl, rfl, rfl⟩ rfl rfl rfl rfl rfl (by kernel_rfl) Tryz.func5 (by kernel_rfl)
    (of_decide_eq_true (by kernel_rfl)) (by unfold Func.isWrapper; first | (rw [if_pos (by decide +kernel)]; kernel_rfl) | (rw [if_neg (by decide +kernel)]; exact ⟨rfl, rfl⟩))
    (fun os started H enc _ => lifted os started H enc)
#print axioms proved
end Go.Proofs.YtbmphlpmipkpcaaGreat.requestNames
