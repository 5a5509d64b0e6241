/- RequestSame returns true for every two requests, key and kind, and leaves the memory that was there as it was. -/
import Derived.Test.YtbmphlpmipkpcaaGreatRsm33
import Derived.Test.YtbmphlpmipkpcaaGreatRsm51
import Derived.Test.YtbmphlpmipkpcaaGreatRows
import Derived.ChangeMaps5
import Derived.ProofKit

set_option linter.unusedVariables false
set_option linter.unusedSimpArgs false
namespace Go.Proofs.YtbmphlpmipkpcaaGreat.requestSame
open Go.ChangeShapes Go.WideShapes Go.ChangeAt Go.RowKit Go.Deep
open Go.ChangeMaps (open_string shut_string)
attribute [local go_sem ↓] Rq_execLoad Rq_execStore

attribute [local go_sem] Rq_load Rq_store loL_drew okL_drew there_sc World.there_drew

theorem eqRq_self (a : Rqt) : eqRq a a = true := by unfold eqRq bareB; simp
theorem eqRq_symm (a b : Rqt) : eqRq b a = eqRq a b := by
  rw [Bool.eq_iff_iff, eqRq_iff, eqRq_iff]
  unfold hdR
  simp only [Bool.and_eq_true, beq_iff_eq]
  constructor
  · rintro ⟨⟨⟨⟨⟨⟨⟨⟨⟨⟨h1, h2⟩, h3⟩, h4⟩, h5⟩, h6⟩, h7⟩, h8⟩, h9⟩, h10⟩, h11, h12⟩
    exact ⟨⟨⟨⟨⟨⟨⟨⟨⟨⟨h1.symm, h2.symm⟩, h3.symm⟩, h4.symm⟩, h5.symm⟩, h6.symm⟩, h7.symm⟩, h8.symm⟩, h9.symm⟩, h10.symm⟩, h11.symm, h12.symm⟩
  · rintro ⟨⟨⟨⟨⟨⟨⟨⟨⟨⟨h1, h2⟩, h3⟩, h4⟩, h5⟩, h6⟩, h7⟩, h8⟩, h9⟩, h10⟩, h11, h12⟩
    exact ⟨⟨⟨⟨⟨⟨⟨⟨⟨⟨h1.symm, h2.symm⟩, h3.symm⟩, h4.symm⟩, h5.symm⟩, h6.symm⟩, h7.symm⟩, h8.symm⟩, h9.symm⟩, h10.symm⟩, h11.symm, h12.symm⟩
theorem mNameX_out {k : Int} (h : k < 1 ∨ 5 < k) : mNameX k = [] := by
  unfold mNameX; rw [if_neg (by omega), if_neg (by omega), if_neg (by omega), if_neg (by omega), if_neg (by omega)]
set_option maxRecDepth 8000 in
set_option maxHeartbeats 8000000 in
theorem walk (a : Rqt) (p1 p2 : Option Addr) (n1 z1 n2 z2 : Nat) (b : Rqt) (s1 s2 : Option Addr) (m1 y1 m2 y2 : Nat) (key : ByteArray) (k : Int) (w : World) (hac : LS Cpn.cells 6 w (.slice p1 n1 z1) a.cs) (hax : LS Txx.cells 2 w (.slice p2 n2 z2) a.xs) (haw : a.wf) (hbc : LS Cpn.cells 6 w (.slice s1 m1 y1) b.cs) (hbx : LS Txx.cells 2 w (.slice s2 m2 y2) b.xs) (hbw : b.wf) (wkey : key.size ≤ maxLen) : Calls Tryz.prog 6 #[.agg #[.string a.key, .int .i64 a.k, .int .i64 a.d, .int .u64 a.tk, .int .i64 a.c, .int .i64 a.st, .string a.loc, .slice p1 n1 z1, .slice p2 n2 z2, .int .i64 a.am, .int .i64 a.fr, .int .i64 a.tt], .agg #[.string b.key, .int .i64 b.k, .int .i64 b.d, .int .u64 b.tk, .int .i64 b.c, .int .i64 b.st, .string b.loc, .slice s1 m1 y1, .slice s2 m2 y2, .int .i64 b.am, .int .i64 b.fr, .int .i64 b.tt], .string key, .int .i64 k] w fun e w' => e = .returned (.bool true) ∧ Below w.heap.size w w' := by
  have HAC := Lib.hid hac
  have HAX := Lib.hid hax
  have HBC := Lib.hid hbc
  have HBX := Lib.hid hbx
  have hn1 := hac.length.2
  have hn2 := hax.length.2
  have hm1 := hbc.length.2
  have hm2 := hbx.length.2
  have hb1 := (Below.refl w.heap.size w).alloc (Nat.le_refl _) (.cells #[.string a.key, .int .i64 a.k, .int .i64 a.d, .int .u64 a.tk, .int .i64 a.c, .int .i64 a.st, .string a.loc, .slice p1 n1 z1, .slice p2 n2 z2, .int .i64 a.am, .int .i64 a.fr, .int .i64 a.tt] 57 (0, 0))
  have hr1 := new_rowW w (.cells #[.string a.key, .int .i64 a.k, .int .i64 a.d, .int .u64 a.tk, .int .i64 a.c, .int .i64 a.st, .string a.loc, .slice p1 n1 z1, .slice p2 n2 z2, .int .i64 a.am, .int .i64 a.fr, .int .i64 a.tt] 57 (0, 0)) _ rfl
  have hb2 := (Below.refl (w.alloc (.cells #[.string a.key, .int .i64 a.k, .int .i64 a.d, .int .u64 a.tk, .int .i64 a.c, .int .i64 a.st, .string a.loc, .slice p1 n1 z1, .slice p2 n2 z2, .int .i64 a.am, .int .i64 a.fr, .int .i64 a.tt] 57 (0, 0))).heap.size (w.alloc (.cells #[.string a.key, .int .i64 a.k, .int .i64 a.d, .int .u64 a.tk, .int .i64 a.c, .int .i64 a.st, .string a.loc, .slice p1 n1 z1, .slice p2 n2 z2, .int .i64 a.am, .int .i64 a.fr, .int .i64 a.tt] 57 (0, 0)))).alloc (Nat.le_refl _) (.cells #[.string b.key, .int .i64 b.k, .int .i64 b.d, .int .u64 b.tk, .int .i64 b.c, .int .i64 b.st, .string b.loc, .slice s1 m1 y1, .slice s2 m2 y2, .int .i64 b.am, .int .i64 b.fr, .int .i64 b.tt] 57 (0, 0))
  have hr2 := new_rowW (w.alloc (.cells #[.string a.key, .int .i64 a.k, .int .i64 a.d, .int .u64 a.tk, .int .i64 a.c, .int .i64 a.st, .string a.loc, .slice p1 n1 z1, .slice p2 n2 z2, .int .i64 a.am, .int .i64 a.fr, .int .i64 a.tt] 57 (0, 0))) (.cells #[.string b.key, .int .i64 b.k, .int .i64 b.d, .int .u64 b.tk, .int .i64 b.c, .int .i64 b.st, .string b.loc, .slice s1 m1 y1, .slice s2 m2 y2, .int .i64 b.am, .int .i64 b.fr, .int .i64 b.tt] 57 (0, 0)) _ rfl
  have HRA := Lib.hid ((hb2.block _ (block_lt hr1)).trans hr1)
  have hsz : (w.alloc (.cells #[.string a.key, .int .i64 a.k, .int .i64 a.d, .int .u64 a.tk, .int .i64 a.c, .int .i64 a.st, .string a.loc, .slice p1 n1 z1, .slice p2 n2 z2, .int .i64 a.am, .int .i64 a.fr, .int .i64 a.tt] 57 (0, 0))).heap.size = w.heap.size + 1 := by simp
  rw [hsz] at hr2
  have HB := Lib.hid (hb1.trans (hb2.mono hb1.size))
  have HRB := Lib.hid hr2
  clear hb1 hb2 hr1 hr2 hsz hac hax hbc hbx
  have HMA := Lib.hid (fun W => rMuch16_any a p1 p2 n1 z1 n2 z2 W (by omega) (by omega) haw.key haw.loc)
  have HMB := Lib.hid (fun W => rMuch16_any b s1 s2 m1 y1 m2 y2 W (by omega) (by omega) hbw.key hbw.loc)
  obtain ⟨qa, hqa⟩ : ∃ q, (decide (40 < n1) || decide (40 < n2) || decide (200 < a.key.size) || decide (200 < a.loc.size)) = q := ⟨_, rfl⟩
  rw [hqa] at HMA
  obtain ⟨qb, hqb⟩ : ∃ q, (decide (40 < m1) || decide (40 < m2) || decide (200 < b.key.size) || decide (200 < b.loc.size)) = q := ⟨_, rfl⟩
  rw [hqb] at HMB
  clear hqa hqb hn1 hn2 hm1 hm2 haw hbw
  obtain ⟨qk, hqk⟩ : ∃ q, Rq.keyB key.data.toList = q := ⟨_, rfl⟩
  have HK := Lib.hid (fun W => mayKey_any key W wkey)
  have HRK := Lib.hid (fun W => rMayKey_any key W wkey)
  rw [hqk] at HK HRK
  clear hqk
  obtain ⟨q1, hq1⟩ : ∃ q, eqRq a b = q := ⟨_, rfl⟩
  have HQ1 := Lib.hid hq1
  clear hq1
  have wk : key.size ≤ 9223372036854775807 := by unfold maxLen at wkey; omega
  clear wkey
  go_enter Tryz.func6, Tryz.ntmps6
  obtain ⟨f1, f2⟩ := row_loT 12 HRA.out rfl rfl
  obtain ⟨f3, f4⟩ := row_loT 12 HRB.out rfl rfl
  go_wp2_with fail
  clear f1 f2 f3 f4
  refine (HMA.out _).mono ?_
  rintro e w1 ⟨rfl, hb⟩
  replace HRA := Lib.hid ((hb.block _ (block_lt HRA.out)).trans HRA.out)
  replace HRB := Lib.hid ((hb.block _ (block_lt HRB.out)).trans HRB.out)
  replace HB := Lib.hid (HB.out.trans (hb.mono HB.out.size))
  clear hb
  cases qa
  case true =>
    go_wp2_with fail
    refine (known16_any _).mono ?_
    rintro e wz ⟨rfl, hb⟩
    have HBZ := Lib.hid (HB.out.trans (hb.mono HB.out.size))
    clear hb
    go_wp2
    go_ret
    exact ⟨rfl, HBZ.out⟩
  obtain ⟨f1, f2⟩ := row_loT 12 HRA.out rfl rfl
  obtain ⟨f3, f4⟩ := row_loT 12 HRB.out rfl rfl
  go_wp2_with fail
  clear f1 f2 f3 f4
  refine (HMB.out _).mono ?_
  rintro e w2 ⟨rfl, hb⟩
  replace HRA := Lib.hid ((hb.block _ (block_lt HRA.out)).trans HRA.out)
  replace HRB := Lib.hid ((hb.block _ (block_lt HRB.out)).trans HRB.out)
  replace HB := Lib.hid (HB.out.trans (hb.mono HB.out.size))
  clear hb
  cases qb
  case true =>
    go_wp2_with fail
    refine (known16_any _).mono ?_
    rintro e wz ⟨rfl, hb⟩
    have HBZ := Lib.hid (HB.out.trans (hb.mono HB.out.size))
    clear hb
    go_wp2
    go_ret
    exact ⟨rfl, HBZ.out⟩
  by_cases h100 : (100 : Int) < key.size
  · skip
    go_wp2_with fail
    refine (known16_any _).mono ?_
    rintro e wz ⟨rfl, hb⟩
    have HBZ := Lib.hid (HB.out.trans (hb.mono HB.out.size))
    clear hb
    go_wp2
    go_ret
    exact ⟨rfl, HBZ.out⟩
  clear HMA HMB
  rcases (by omega : k < 1 ∨ 10 < k ∨ (1 ≤ k ∧ k ≤ 5) ∨ (5 < k ∧ k ≤ 10)) with hk | hk | ⟨hk, hk2⟩ | ⟨hk, hk2⟩
  · have g1 : ¬ (1 : Int) ≤ k := by omega
    go_upto_region 8 with fail
    have f1 := fun (u : Later w2) => (row_loT 12 (g := w.heap.size) ((u.prop.block _ (block_lt HRA.out)).trans HRA.out) rfl rfl).1
    have f2 := fun (u : Later w2) => (row_loT 12 (g := w.heap.size) ((u.prop.block _ (block_lt HRA.out)).trans HRA.out) rfl rfl).2
    have f3 := fun (u : Later w2) => (row_loT 12 (g := w.heap.size + 1) ((u.prop.block _ (block_lt HRB.out)).trans HRB.out) rfl rfl).1
    have f4 := fun (u : Later w2) => (row_loT 12 (g := w.heap.size + 1) ((u.prop.block _ (block_lt HRB.out)).trans HRB.out) rfl rfl).2
    have HS1 := Lib.hid (fun (u : Later w2) => rqSame_any a b p1 p2 s1 s2 n1 z1 n2 z2 m1 y1 m2 y2 u.val (HAC.out.below (HB.out.trans (u.prop.mono HB.out.size))) (HAX.out.below (HB.out.trans (u.prop.mono HB.out.size))) (HBC.out.below (HB.out.trans (u.prop.mono HB.out.size))) (HBX.out.below (HB.out.trans (u.prop.mono HB.out.size))))
    rw [HQ1.out] at HS1
    have HS2 := Lib.hid (fun (u : Later w2) => rqSame_any b a s1 s2 p1 p2 m1 y1 m2 y2 n1 z1 n2 z2 u.val (HBC.out.below (HB.out.trans (u.prop.mono HB.out.size))) (HBX.out.below (HB.out.trans (u.prop.mono HB.out.size))) (HAC.out.below (HB.out.trans (u.prop.mono HB.out.size))) (HAX.out.below (HB.out.trans (u.prop.mono HB.out.size))))
    rw [eqRq_symm, HQ1.out] at HS2
    have HS3 := Lib.hid (fun (u : Later w2) => rqSame_any a a p1 p2 p1 p2 n1 z1 n2 z2 n1 z1 n2 z2 u.val (HAC.out.below (HB.out.trans (u.prop.mono HB.out.size))) (HAX.out.below (HB.out.trans (u.prop.mono HB.out.size))) (HAC.out.below (HB.out.trans (u.prop.mono HB.out.size))) (HAX.out.below (HB.out.trans (u.prop.mono HB.out.size))))
    rw [eqRq_self] at HS3
    have HR1 := Lib.hid (fun (u : Later w2) => rSame16_any a b p1 p2 s1 s2 n1 z1 n2 z2 m1 y1 m2 y2 u.val (HAC.out.below (HB.out.trans (u.prop.mono HB.out.size))) (HAX.out.below (HB.out.trans (u.prop.mono HB.out.size))) (HBC.out.below (HB.out.trans (u.prop.mono HB.out.size))) (HBX.out.below (HB.out.trans (u.prop.mono HB.out.size))) q1 (by rw [← HQ1.out]; exact eqRq_iff a b))
    have HNM : Hid (∀ W : World, Calls Tryz.prog 30 #[.int .i64 k] W fun e w' => e = .returned (.string ⟨#[]⟩) ∧ Below W.heap.size W w') := Lib.hid (fun W => by have h := rqName_any k W; rw [(Rq.parts_out (by omega)).2] at h; exact h)
    have HMM : Hid (∀ W : World, Calls Tryz.prog 31 #[.int .i64 k] W fun e w' => e = .returned (.string ⟨#[]⟩) ∧ Below W.heap.size W w') := Lib.hid (fun W => by have h := mailNameX_any k W; rw [mNameX_out (by omega)] at h; exact h)
    clear HAC HAX HBC HBX HQ1 HRA HRB
    refine wp_region_later (by kernel_rfl) (by kernel_rfl) ?_
    repeat (go_big_quiet_step (first | (go_at_call 27; first | (with_reducible exact later_call (HS1.out _)) | (with_reducible exact later_call (HS2.out _)) | (with_reducible exact later_call (HS3.out _)) | exact later_call (HS1.out _) | exact later_call (HS2.out _) | exact later_call (HS3.out _)) | (go_at_call 23; exact later_call (HR1.out _)) | (go_at_call 28; exact later_call (HK.out _)) | (go_at_call 29; exact later_same (HRK.out _)) | (go_at_call 30; exact later_call (HNM.out _)) | (go_at_call 31; exact later_call (HMM.out _)) | (go_at_call 12; exact later_call (known16_any _))))
    refine wpQuiet_nil ?_
    rintro w8 ⟨u, rfl⟩
    go_wp2
    go_ret
    exact ⟨rfl, HB.out.trans (u.prop.mono HB.out.size)⟩
  · have g1 : (1 : Int) ≤ k := by omega
    have g2 : ¬ k ≤ 10 := by omega
    have g3 : ¬ k ≤ 5 := by omega
    go_upto_region 8 with fail
    have f1 := fun (u : Later w2) => (row_loT 12 (g := w.heap.size) ((u.prop.block _ (block_lt HRA.out)).trans HRA.out) rfl rfl).1
    have f2 := fun (u : Later w2) => (row_loT 12 (g := w.heap.size) ((u.prop.block _ (block_lt HRA.out)).trans HRA.out) rfl rfl).2
    have f3 := fun (u : Later w2) => (row_loT 12 (g := w.heap.size + 1) ((u.prop.block _ (block_lt HRB.out)).trans HRB.out) rfl rfl).1
    have f4 := fun (u : Later w2) => (row_loT 12 (g := w.heap.size + 1) ((u.prop.block _ (block_lt HRB.out)).trans HRB.out) rfl rfl).2
    have HS1 := Lib.hid (fun (u : Later w2) => rqSame_any a b p1 p2 s1 s2 n1 z1 n2 z2 m1 y1 m2 y2 u.val (HAC.out.below (HB.out.trans (u.prop.mono HB.out.size))) (HAX.out.below (HB.out.trans (u.prop.mono HB.out.size))) (HBC.out.below (HB.out.trans (u.prop.mono HB.out.size))) (HBX.out.below (HB.out.trans (u.prop.mono HB.out.size))))
    rw [HQ1.out] at HS1
    have HS2 := Lib.hid (fun (u : Later w2) => rqSame_any b a s1 s2 p1 p2 m1 y1 m2 y2 n1 z1 n2 z2 u.val (HBC.out.below (HB.out.trans (u.prop.mono HB.out.size))) (HBX.out.below (HB.out.trans (u.prop.mono HB.out.size))) (HAC.out.below (HB.out.trans (u.prop.mono HB.out.size))) (HAX.out.below (HB.out.trans (u.prop.mono HB.out.size))))
    rw [eqRq_symm, HQ1.out] at HS2
    have HS3 := Lib.hid (fun (u : Later w2) => rqSame_any a a p1 p2 p1 p2 n1 z1 n2 z2 n1 z1 n2 z2 u.val (HAC.out.below (HB.out.trans (u.prop.mono HB.out.size))) (HAX.out.below (HB.out.trans (u.prop.mono HB.out.size))) (HAC.out.below (HB.out.trans (u.prop.mono HB.out.size))) (HAX.out.below (HB.out.trans (u.prop.mono HB.out.size))))
    rw [eqRq_self] at HS3
    have HR1 := Lib.hid (fun (u : Later w2) => rSame16_any a b p1 p2 s1 s2 n1 z1 n2 z2 m1 y1 m2 y2 u.val (HAC.out.below (HB.out.trans (u.prop.mono HB.out.size))) (HAX.out.below (HB.out.trans (u.prop.mono HB.out.size))) (HBC.out.below (HB.out.trans (u.prop.mono HB.out.size))) (HBX.out.below (HB.out.trans (u.prop.mono HB.out.size))) q1 (by rw [← HQ1.out]; exact eqRq_iff a b))
    have HNM : Hid (∀ W : World, Calls Tryz.prog 30 #[.int .i64 k] W fun e w' => e = .returned (.string ⟨#[]⟩) ∧ Below W.heap.size W w') := Lib.hid (fun W => by have h := rqName_any k W; rw [(Rq.parts_out (by omega)).2] at h; exact h)
    have HMM : Hid (∀ W : World, Calls Tryz.prog 31 #[.int .i64 k] W fun e w' => e = .returned (.string ⟨#[]⟩) ∧ Below W.heap.size W w') := Lib.hid (fun W => by have h := mailNameX_any k W; rw [mNameX_out (by omega)] at h; exact h)
    clear HAC HAX HBC HBX HQ1 HRA HRB
    refine wp_region_later (by kernel_rfl) (by kernel_rfl) ?_
    repeat (go_big_quiet_step (first | (go_at_call 27; first | (with_reducible exact later_call (HS1.out _)) | (with_reducible exact later_call (HS2.out _)) | (with_reducible exact later_call (HS3.out _)) | exact later_call (HS1.out _) | exact later_call (HS2.out _) | exact later_call (HS3.out _)) | (go_at_call 23; exact later_call (HR1.out _)) | (go_at_call 28; exact later_call (HK.out _)) | (go_at_call 29; exact later_same (HRK.out _)) | (go_at_call 30; exact later_call (HNM.out _)) | (go_at_call 31; exact later_call (HMM.out _)) | (go_at_call 12; exact later_call (known16_any _))))
    refine wpQuiet_nil ?_
    rintro w8 ⟨u, rfl⟩
    go_wp2
    go_ret
    exact ⟨rfl, HB.out.trans (u.prop.mono HB.out.size)⟩
  · obtain ⟨j, rfl⟩ : ∃ j : Nat, k = (j : Int) + 1 := ⟨(k - 1).toNat, by omega⟩
    have g4 : j < 5 := by omega
    have g1 : (1 : Int) ≤ (j : Int) + 1 := by omega
    have g2 : (j : Int) + 1 ≤ 10 := by omega
    have g3 : (j : Int) + 1 ≤ 5 := by omega
    go_wp2_with fail
    refine (rNames_any _).mono ?_
    rintro e w3 ⟨rfl, hrow, hb⟩
    have c1 := (cell_of_row w3 w2.heap.size j _ _ _ hrow).trans (names_at j (by omega))
    replace HRA := Lib.hid ((hb.block _ (block_lt HRA.out)).trans HRA.out)
    replace HRB := Lib.hid ((hb.block _ (block_lt HRB.out)).trans HRB.out)
    replace HB := Lib.hid (HB.out.trans (hb.mono HB.out.size))
    clear hb
    clear hrow
    generalize w2.heap.size = gw3 at *
    go_wp2_with fail
    refine (rMailNames_any _).mono ?_
    rintro e w4 ⟨rfl, hrow, hb⟩
    have c2 := (cell_of_row w4 w3.heap.size j _ _ _ hrow).trans (mails_at j (by omega))
    replace HRA := Lib.hid ((hb.block _ (block_lt HRA.out)).trans HRA.out)
    replace HRB := Lib.hid ((hb.block _ (block_lt HRB.out)).trans HRB.out)
    replace HB := Lib.hid (HB.out.trans (hb.mono HB.out.size))
    clear hb
    clear hrow
    generalize w3.heap.size = gw4 at *
    go_upto_region 8 with fail
    clear c1 c2
    have f1 := fun (u : Later w4) => (row_loT 12 (g := w.heap.size) ((u.prop.block _ (block_lt HRA.out)).trans HRA.out) rfl rfl).1
    have f2 := fun (u : Later w4) => (row_loT 12 (g := w.heap.size) ((u.prop.block _ (block_lt HRA.out)).trans HRA.out) rfl rfl).2
    have f3 := fun (u : Later w4) => (row_loT 12 (g := w.heap.size + 1) ((u.prop.block _ (block_lt HRB.out)).trans HRB.out) rfl rfl).1
    have f4 := fun (u : Later w4) => (row_loT 12 (g := w.heap.size + 1) ((u.prop.block _ (block_lt HRB.out)).trans HRB.out) rfl rfl).2
    have HS1 := Lib.hid (fun (u : Later w4) => rqSame_any a b p1 p2 s1 s2 n1 z1 n2 z2 m1 y1 m2 y2 u.val (HAC.out.below (HB.out.trans (u.prop.mono HB.out.size))) (HAX.out.below (HB.out.trans (u.prop.mono HB.out.size))) (HBC.out.below (HB.out.trans (u.prop.mono HB.out.size))) (HBX.out.below (HB.out.trans (u.prop.mono HB.out.size))))
    rw [HQ1.out] at HS1
    have HS2 := Lib.hid (fun (u : Later w4) => rqSame_any b a s1 s2 p1 p2 m1 y1 m2 y2 n1 z1 n2 z2 u.val (HBC.out.below (HB.out.trans (u.prop.mono HB.out.size))) (HBX.out.below (HB.out.trans (u.prop.mono HB.out.size))) (HAC.out.below (HB.out.trans (u.prop.mono HB.out.size))) (HAX.out.below (HB.out.trans (u.prop.mono HB.out.size))))
    rw [eqRq_symm, HQ1.out] at HS2
    have HS3 := Lib.hid (fun (u : Later w4) => rqSame_any a a p1 p2 p1 p2 n1 z1 n2 z2 n1 z1 n2 z2 u.val (HAC.out.below (HB.out.trans (u.prop.mono HB.out.size))) (HAX.out.below (HB.out.trans (u.prop.mono HB.out.size))) (HAC.out.below (HB.out.trans (u.prop.mono HB.out.size))) (HAX.out.below (HB.out.trans (u.prop.mono HB.out.size))))
    rw [eqRq_self] at HS3
    have HR1 := Lib.hid (fun (u : Later w4) => rSame16_any a b p1 p2 s1 s2 n1 z1 n2 z2 m1 y1 m2 y2 u.val (HAC.out.below (HB.out.trans (u.prop.mono HB.out.size))) (HAX.out.below (HB.out.trans (u.prop.mono HB.out.size))) (HBC.out.below (HB.out.trans (u.prop.mono HB.out.size))) (HBX.out.below (HB.out.trans (u.prop.mono HB.out.size))) q1 (by rw [← HQ1.out]; exact eqRq_iff a b))
    have HNM : Hid (∀ W : World, Calls Tryz.prog 30 #[.int .i64 ((j : Int) + 1)] W fun e w' => e = .returned (.string ⟨(Rq.nameL ((j : Int) + 1)).toArray⟩) ∧ Below W.heap.size W w') := Lib.hid (fun W => rqName_any _ W)
    have HMM : Hid (∀ W : World, Calls Tryz.prog 31 #[.int .i64 ((j : Int) + 1)] W fun e w' => e = .returned (.string ⟨(mNameX ((j : Int) + 1)).toArray⟩) ∧ Below W.heap.size W w') := Lib.hid (fun W => mailNameX_any _ W)
    clear HAC HAX HBC HBX HQ1 HRA HRB
    refine wp_region_later (by kernel_rfl) (by kernel_rfl) ?_
    repeat (go_big_quiet_step (first | (go_at_call 27; first | (with_reducible exact later_call (HS1.out _)) | (with_reducible exact later_call (HS2.out _)) | (with_reducible exact later_call (HS3.out _)) | exact later_call (HS1.out _) | exact later_call (HS2.out _) | exact later_call (HS3.out _)) | (go_at_call 23; exact later_call (HR1.out _)) | (go_at_call 28; exact later_call (HK.out _)) | (go_at_call 29; exact later_same (HRK.out _)) | (go_at_call 30; exact later_call (HNM.out _)) | (go_at_call 31; exact later_call (HMM.out _)) | (go_at_call 12; exact later_call (known16_any _))))
    refine wpQuiet_nil ?_
    rintro w8 ⟨u, rfl⟩
    go_wp2
    go_ret
    exact ⟨rfl, HB.out.trans (u.prop.mono HB.out.size)⟩
  · obtain ⟨j, rfl⟩ : ∃ j : Nat, k = (j : Int) + 1 := ⟨(k - 1).toNat, by omega⟩
    have g4 : j < 10 := by omega
    have g1 : (1 : Int) ≤ (j : Int) + 1 := by omega
    have g2 : (j : Int) + 1 ≤ 10 := by omega
    have g3 : ¬ (j : Int) + 1 ≤ 5 := by omega
    go_wp2_with fail
    refine (rNames_any _).mono ?_
    rintro e w3 ⟨rfl, hrow, hb⟩
    have c1 := (cell_of_row w3 w2.heap.size j _ _ _ hrow).trans (names_at j (by omega))
    replace HRA := Lib.hid ((hb.block _ (block_lt HRA.out)).trans HRA.out)
    replace HRB := Lib.hid ((hb.block _ (block_lt HRB.out)).trans HRB.out)
    replace HB := Lib.hid (HB.out.trans (hb.mono HB.out.size))
    clear hb
    clear hrow
    generalize w2.heap.size = gw3 at *
    go_upto_region 8 with fail
    clear c1
    have f1 := fun (u : Later w3) => (row_loT 12 (g := w.heap.size) ((u.prop.block _ (block_lt HRA.out)).trans HRA.out) rfl rfl).1
    have f2 := fun (u : Later w3) => (row_loT 12 (g := w.heap.size) ((u.prop.block _ (block_lt HRA.out)).trans HRA.out) rfl rfl).2
    have f3 := fun (u : Later w3) => (row_loT 12 (g := w.heap.size + 1) ((u.prop.block _ (block_lt HRB.out)).trans HRB.out) rfl rfl).1
    have f4 := fun (u : Later w3) => (row_loT 12 (g := w.heap.size + 1) ((u.prop.block _ (block_lt HRB.out)).trans HRB.out) rfl rfl).2
    have HS1 := Lib.hid (fun (u : Later w3) => rqSame_any a b p1 p2 s1 s2 n1 z1 n2 z2 m1 y1 m2 y2 u.val (HAC.out.below (HB.out.trans (u.prop.mono HB.out.size))) (HAX.out.below (HB.out.trans (u.prop.mono HB.out.size))) (HBC.out.below (HB.out.trans (u.prop.mono HB.out.size))) (HBX.out.below (HB.out.trans (u.prop.mono HB.out.size))))
    rw [HQ1.out] at HS1
    have HS2 := Lib.hid (fun (u : Later w3) => rqSame_any b a s1 s2 p1 p2 m1 y1 m2 y2 n1 z1 n2 z2 u.val (HBC.out.below (HB.out.trans (u.prop.mono HB.out.size))) (HBX.out.below (HB.out.trans (u.prop.mono HB.out.size))) (HAC.out.below (HB.out.trans (u.prop.mono HB.out.size))) (HAX.out.below (HB.out.trans (u.prop.mono HB.out.size))))
    rw [eqRq_symm, HQ1.out] at HS2
    have HS3 := Lib.hid (fun (u : Later w3) => rqSame_any a a p1 p2 p1 p2 n1 z1 n2 z2 n1 z1 n2 z2 u.val (HAC.out.below (HB.out.trans (u.prop.mono HB.out.size))) (HAX.out.below (HB.out.trans (u.prop.mono HB.out.size))) (HAC.out.below (HB.out.trans (u.prop.mono HB.out.size))) (HAX.out.below (HB.out.trans (u.prop.mono HB.out.size))))
    rw [eqRq_self] at HS3
    have HR1 := Lib.hid (fun (u : Later w3) => rSame16_any a b p1 p2 s1 s2 n1 z1 n2 z2 m1 y1 m2 y2 u.val (HAC.out.below (HB.out.trans (u.prop.mono HB.out.size))) (HAX.out.below (HB.out.trans (u.prop.mono HB.out.size))) (HBC.out.below (HB.out.trans (u.prop.mono HB.out.size))) (HBX.out.below (HB.out.trans (u.prop.mono HB.out.size))) q1 (by rw [← HQ1.out]; exact eqRq_iff a b))
    have HNM : Hid (∀ W : World, Calls Tryz.prog 30 #[.int .i64 ((j : Int) + 1)] W fun e w' => e = .returned (.string ⟨(Rq.nameL ((j : Int) + 1)).toArray⟩) ∧ Below W.heap.size W w') := Lib.hid (fun W => rqName_any _ W)
    have HMM : Hid (∀ W : World, Calls Tryz.prog 31 #[.int .i64 ((j : Int) + 1)] W fun e w' => e = .returned (.string ⟨#[]⟩) ∧ Below W.heap.size W w') := Lib.hid (fun W => by have h := mailNameX_any ((j : Int) + 1) W; rw [mNameX_out (by omega)] at h; exact h)
    clear HAC HAX HBC HBX HQ1 HRA HRB
    refine wp_region_later (by kernel_rfl) (by kernel_rfl) ?_
    repeat (go_big_quiet_step (first | (go_at_call 27; first | (with_reducible exact later_call (HS1.out _)) | (with_reducible exact later_call (HS2.out _)) | (with_reducible exact later_call (HS3.out _)) | exact later_call (HS1.out _) | exact later_call (HS2.out _) | exact later_call (HS3.out _)) | (go_at_call 23; exact later_call (HR1.out _)) | (go_at_call 28; exact later_call (HK.out _)) | (go_at_call 29; exact later_same (HRK.out _)) | (go_at_call 30; exact later_call (HNM.out _)) | (go_at_call 31; exact later_call (HMM.out _)) | (go_at_call 12; exact later_call (known16_any _))))
    refine wpQuiet_nil ?_
    rintro w8 ⟨u, rfl⟩
    go_wp2
    go_ret
    exact ⟨rfl, HB.out.trans (u.prop.mono HB.out.size)⟩
set_option maxRecDepth 100000 in
theorem lifted (os : Os) (started : os.Started) (H : Type) (enc : TypeId × Value → H) :
    ReturnsInHanded {} Tryz.checked os 6 .any (Rows.requestSameSpec.pre6 enc Tryz.prog Tryz.f6 Rows.requestSameRow.domain false) (Rows.requestSameSpec.post enc Tryz.prog Tryz.f6 false true false false) := by
  refine returnsInHanded_of_change (C := Tryz.checked) own started (by kernel_rfl) Tryz.func6
    (ChangeSpec.witness6 (enc := enc) (C := Tryz.checked) false ⟨#[], #[.agg #[.string ByteArray.empty, .int .i64 0, .int .i64 0, .int .u64 0, .int .i64 0, .int .i64 0, .string ByteArray.empty, .slice none 0 0, .slice none 0 0, .int .i64 0, .int .i64 0, .int .i64 0], .agg #[.string ByteArray.empty, .int .i64 0, .int .i64 0, .int .u64 0, .int .i64 0, .int .i64 0, .string ByteArray.empty, .slice none 0 0, .slice none 0 0, .int .i64 0, .int .i64 0, .int .i64 0], .string ByteArray.empty, .int .i64 0], []⟩ 8 (by kernel_rfl) (by kernel_rfl) (by kernel_rfl) (by kernel_rfl)) ?_
  intro W base args ds gs before hval0 hW hcnd _
  have hval : ∀ (j : Nat) t v, Tryz.f6.params[j]? = some t → args[j]? = some v → Value.okWide Tryz.prog W .any base t v := hval0
  have hW' := hW
  obtain ⟨p, q, hA0, hV, rfl, hfz, hnd⟩ := hW
  have hA : DataW.TrodAll enc Tryz.prog W 0 (fun _ => true) true Tryz.f6.params.toList args.toList ds p := hA0
  rw [Tryz.params6] at hA hval
  obtain ⟨v0, vs0, d0, ds0, p0, q0, hargs, rfl, rfl, h0, r0⟩ := trodAll_cons hA
  obtain ⟨v1, vs1, d1, ds1, p1, q1, rfl, rfl, rfl, h1, r1⟩ := trodAll_cons r0
  obtain ⟨v2, vs2, d2, ds2, p2, q2, rfl, rfl, rfl, h2, r2⟩ := trodAll_cons r1
  obtain ⟨v3, vs3, d3, ds3, p3, q3, rfl, rfl, rfl, h3, r3⟩ := trodAll_cons r2
  obtain ⟨rfl, rfl, rfl⟩ := trodAll_nil r3
  obtain rfl : args = #[v0, v1, v2, v3] := by cases args; simp_all
  obtain ⟨a, p1, p2, n1, z1, n2, z2, rfl, hac, hax, haw⟩ := open_request (hval 0 _ v0 rfl rfl) h0
  obtain ⟨b, s1, s2, m1, y1, m2, y2, rfl, hbc, hbx, hbw⟩ := open_request (hval 1 _ v1 rfl rfl) h1
  obtain ⟨key, rfl, rfl, rfl, wkey⟩ := open_string Tryz.underlying9 (hval 2 9 v2 rfl rfl) h2
  obtain ⟨k, rfl, rfl, rfl, wk⟩ := open_int Tryz.underlying3 (hval 3 3 v3 rfl rfl) h3
  clear hA0 hval0
  refine (walk a p1 p2 n1 z1 n2 z2 b s1 s2 m1 y1 m2 y2 key k W hac hax haw hbc hbx hbw wkey).mono fun e W' ⟨he, hg⟩ => ?_
  subst he
  exact ⟨_, rfl, post_law laidOut rfl hW' ⟨rfl, rfl, rfl⟩ (by kernel_rfl) hg Tryz.underlying4 rfl⟩

theorem proved : Rows.RequestSameSaid :=
  OpenClaim.holds_of_wide 6 Tryz.f6 rfl rfl rfl rfl rfl rfl rfl ⟨rfl, rfl, rfl, rfl, rfl⟩ rfl rfl rfl rfl rfl (by kernel_rfl) Tryz.func6 (by kernel_rfl)
    (of_decide_eq_true (by kernel_rfl)) (by unfold Func.isWrapper; first | (rw [if_pos (by decide +kernel)]; kernel_rfl) | (rw [if_neg (by decide +kernel)]; exact ⟨rfl, rfl⟩))
    (fun os started H enc _ => lifted os started H enc)
#print axioms proved
end Go.Proofs.YtbmphlpmipkpcaaGreat.requestSame
