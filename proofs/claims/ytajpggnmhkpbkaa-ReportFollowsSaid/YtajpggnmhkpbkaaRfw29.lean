/- Contract: the reference's Sum. -/
import Derived.Test.YtajpggnmhkpbkaaRfw11

set_option linter.unusedVariables false
set_option linter.unusedSimpArgs false
namespace Go.Proofs.Ytajpggnmhkpbkaa
open Go.ChangeShapes Go.WideShapes Go.ChangeAt Go.RowKit

set_option maxRecDepth 4000 in
set_option maxHeartbeats 2000000 in
theorem rSum_any (l : List Pst) (p : Option Addr) (n cap : Nat) (hn : n = l.length) (w : World) (hs : PS w (.slice p n cap) l) (ev m x0 x1 x2 x3 x4 x5 : Int) (hsum : Post.sums l = ⟨ev, m, [x0, x1, x2, x3, x4, x5]⟩) :
    Calls Try.prog 71 #[.slice p n cap] w
      fun e w' => e = .returned (.tuple #[.agg #[.int .i64 m, .int .i64 x0, .int .i64 x1, .int .i64 x2, .int .i64 x3, .int .i64 x4, .int .i64 x5], .int .i64 ev]) ∧ Below w.heap.size w w' := by
  obtain ⟨p', cap', e, h2, h3, h4, h5⟩ := hs
  injection e with e1 e2 e3
  subst e1; subst e3
  have H5 := Lib.hid h5; clear h5
  have H4 := Lib.hid h4; clear h4
  rw [← hn] at h2
  have HN := Lib.hid hn; clear hn e2
  unfold maxLen at h3
  have HSUM := Lib.hid hsum; clear hsum
  go_enter Try.func71, Try.ntmps71
  go_wp2
  go_loopw [4] (fun i wr => ∃ k : Nat, k ≤ n ∧ i = .int .i64 k ∧ Below w.heap.size w wr ∧ w.heap.size < wr.heap.size ∧
      wr.heap[w.heap.size]? = some (.cells #[.int .i64 0, .int .i64 0, .int .i64 0, .int .i64 0, .int .i64 0, .int .i64 0, .int .i64 0] 41 (0, 0)) ∧
      l.any (fun p => !p.may) = (l.drop k).any (fun p => !p.may)) (fun i _ => n - (intOf i).toNat)
  case atStart => exact ⟨0, Nat.zero_le _, rfl, balloc (Below.refl _ _) _, by simp, new_row _ _ _ rfl, rfl⟩
  case round =>
    obtain ⟨k, hk, rfl, hbw, hsz, hrt, hany⟩ := hrel
    have HRT := Lib.hid hrt
    have HANY := Lib.hid hany; clear hany
    have HBW := Lib.hid hbw
    by_cases hlt : k < n
    · obtain ⟨x, hx⟩ : ∃ x, l[k]? = some x := ⟨_, List.getElem?_eq_getElem (by have := HN.out; omega)⟩
      obtain ⟨b, o, rfl, hbs, hc⟩ := H5.out (by intro h; subst h; simp at hx)
      have hat := (hc k x hx).of_cells (w' := wr) fun j => hbw.cell (p := ⟨b, j, none⟩) hbs
      have HD := Lib.hid (drop_at hx)
      have HU := Lib.hid (u64_bd (H4.out x (List.mem_of_getElem? hx)).2.1)
      obtain ⟨q, hq⟩ : ∃ q, x.may = q := ⟨_, rfl⟩
      have HQ := Lib.hid hq
      have HM : Hid (∀ W, _) := Lib.hid (fun W => rMay_any x.d x.t x.s x.k x.a0 x.a1 x.a2 x.a3 x.a4 x.a5 HU.out.1 HU.out.2 W)
      have HQ' : Hid (Post.may x.d x.t x.s x.k [x.a0, x.a1, x.a2, x.a3, x.a4, x.a5] = q) := Lib.hid hq
      unfold PAt at hat
      obtain ⟨c0, c1, c2, c3, c4, c5, c6, c7, c8, c9⟩ := hat
      clear hx hc hbw hq hrt
      go_wp2_with fail
      refine (HM.out _).mono ?_
      rintro e w1 ⟨rfl, hb1⟩
      rw [HQ'.out]
      clear c0 c1 c2 c3 c4 c5 c6 c7 c8 c9
      have HB1 := Lib.hid (below_call HBW.out hb1)
      have hs1 : w.heap.size < w1.heap.size := Nat.lt_of_lt_of_le hsz hb1.size
      have hr1 := (hb1.block w.heap.size hsz).trans HRT.out
      have HR1 := Lib.hid hr1
      clear hb1
      cases q
      · have hc3 := fun j => cell_of_row w1 w.heap.size j _ _ _ hr1
        have hf3 := fun j => frozen_of_row w1 w.heap.size j _ _ hr1
        have h := HSUM.out
        rw [Post.sums_not (by rw [HANY.out, HD.out, List.any_cons, HQ.out]; rfl)] at h
        injection h with g1 g2 g3
        subst g1; subst g2
        injection g3 with y0 g3; injection g3 with y1 g3; injection g3 with y2 g3; injection g3 with y3 g3; injection g3 with y4 g3; injection g3 with y5 g3
        subst y0; subst y1; subst y2; subst y3; subst y4; subst y5
        clear HSUM hr1
        go_wp2
        have hrow := seven_row HR1.out (.int .i64 0) (.int .i64 0) (.int .i64 0) (.int .i64 0) (.int .i64 0) (.int .i64 0) (.int .i64 0)
        refine bodyPost_ret (v := .tuple #[.agg #[.int .i64 0, .int .i64 0, .int .i64 0, .int .i64 0, .int .i64 0, .int .i64 0, .int .i64 0], .int .i64 2]) (by simp [results, Try.results71, go_sem, fun i => cell_of_row _ _ i _ _ _ hrow]) rfl ⟨rfl, ?_⟩
        exact seven_below HB1.out (by simp) _ _ _ _ _ _ _
      · clear hr1
        go_wp2
        go_roundw
        case rel => exact ⟨k + 1, by omega, by go_num, HB1.out, hs1, HR1.out, by rw [HANY.out, HD.out, List.any_cons, HQ.out]; rfl⟩
        case measure => simp [intOf]; omega
    · obtain rfl : n = k := by omega
      have HQ : Hid (l.any (fun p => !p.may) = false) := Lib.hid (by rw [HANY.out, List.drop_of_length_le (by have := HN.out; omega)]; rfl)
      clear hrt hbw
      obtain ⟨bt, hbt⟩ : ∃ b, wr.heap.size = b := ⟨_, rfl⟩
      have hrz : w.heap.size < bt := by omega
      go_wp2_with fail
      go_loopw [6] (fun i wi => ∃ (k : Nat) (y0 y1 y2 y3 y4 y5 : Int), k ≤ n ∧ i = .int .i64 k ∧ Below w.heap.size w wi ∧ bt < wi.heap.size ∧
        wi.heap[w.heap.size]? = some (.cells #[.int .i64 0, .int .i64 0, .int .i64 0, .int .i64 0, .int .i64 0, .int .i64 0, .int .i64 0] 41 (0, 0)) ∧
        wi.heap[bt]? = some (.cells #[.int .i64 k, .int .i64 y0, .int .i64 y1, .int .i64 y2, .int .i64 y3, .int .i64 y4, .int .i64 y5] 41 (0, 0)) ∧
        ([y0, y1, y2, y3, y4, y5] : List Int).any (Post.outB 1152921504606846976) = false ∧
        Post.run Post.zeros6 (l.map Pst.am) = Post.run [y0, y1, y2, y3, y4, y5] ((l.drop k).map Pst.am)) (fun i _ => n - (intOf i).toNat)
      case atStart =>
        exact ⟨0, 0, 0, 0, 0, 0, 0, Nat.zero_le _, rfl, balloc HBW.out _, by simp; omega, row_alloc HRT.out _, new_row _ _ _ hbt.symm, by decide, rfl⟩
      case round =>
        clear hbt HRT HANY HBW hsz
        obtain ⟨k, y0, y1, y2, y3, y4, y5, hk, rfl, hbw, hsz, hrt, hra, hbd, hrun⟩ := hrel
        have HRT := Lib.hid hrt; clear hrt
        have HRA := Lib.hid hra
        have HRUN := Lib.hid hrun; clear hrun
        have HBW := Lib.hid hbw
        have HY := Lib.hid (fun i => @Post.any_getD _ _ hbd i)
        clear hbd
        have hc3 := fun j => cell_of_row wr bt j _ _ _ hra
        have hf3 := fun j => frozen_of_row wr bt j _ _ hra
        by_cases hlt : k < n
        · obtain ⟨x, hx⟩ : ∃ x, l[k]? = some x := ⟨_, List.getElem?_eq_getElem (by have := HN.out; omega)⟩
          obtain ⟨b, o, rfl, hbs, hc⟩ := H5.out (by intro h; subst h; simp at hx)
          have hat := (hc k x hx).of_cells (w' := wr) fun j => hbw.cell (p := ⟨b, j, none⟩) hbs
          have HD := Lib.hid (drop_at hx)
          have HM : Hid (x.may = true) := Lib.hid (by
            have h := List.any_eq_false.1 HQ.out x (List.mem_of_getElem? hx)
            simpa using h)
          have HAB := Lib.hid (fun i => @Post.any_getD _ _ (Post.may_bound HM.out) i)
          have HRU : Hid (Post.run Post.zeros6 (l.map Pst.am) = Post.run [y0, y1, y2, y3, y4, y5] (x.am :: (l.drop (k + 1)).map Pst.am)) := Lib.hid (by rw [HRUN.out, HD.out]; rfl)
          unfold PAt at hat
          obtain ⟨c0, c1, c2, c3, c4, c5, c6, c7, c8, c9⟩ := hat
          have HZ : Hid (Post.addAm [y0, y1, y2, y3, y4, y5] x.am = [y0 + x.a0, y1 + x.a1, y2 + x.a2, y3 + x.a3, y4 + x.a4, y5 + x.a5]) := Lib.hid rfl
          have v0 : -1152921504606846976 ≤ y0 ∧ y0 ≤ 1152921504606846976 := HY.out 0 (by simp)
          have v1 : -1152921504606846976 ≤ y1 ∧ y1 ≤ 1152921504606846976 := HY.out 1 (by simp)
          have v2 : -1152921504606846976 ≤ y2 ∧ y2 ≤ 1152921504606846976 := HY.out 2 (by simp)
          have v3 : -1152921504606846976 ≤ y3 ∧ y3 ≤ 1152921504606846976 := HY.out 3 (by simp)
          have v4 : -1152921504606846976 ≤ y4 ∧ y4 ≤ 1152921504606846976 := HY.out 4 (by simp)
          have v5 : -1152921504606846976 ≤ y5 ∧ y5 ≤ 1152921504606846976 := HY.out 5 (by simp)
          have u0 : -1125899906842624 ≤ x.a0 ∧ x.a0 ≤ 1125899906842624 := HAB.out 0 (by show 0 < 6; omega)
          have u1 : -1125899906842624 ≤ x.a1 ∧ x.a1 ≤ 1125899906842624 := HAB.out 1 (by show 1 < 6; omega)
          have u2 : -1125899906842624 ≤ x.a2 ∧ x.a2 ≤ 1125899906842624 := HAB.out 2 (by show 2 < 6; omega)
          have u3 : -1125899906842624 ≤ x.a3 ∧ x.a3 ≤ 1125899906842624 := HAB.out 3 (by show 3 < 6; omega)
          have u4 : -1125899906842624 ≤ x.a4 ∧ x.a4 ≤ 1125899906842624 := HAB.out 4 (by show 4 < 6; omega)
          have u5 : -1125899906842624 ≤ x.a5 ∧ x.a5 ≤ 1125899906842624 := HAB.out 5 (by show 5 < 6; omega)
          clear hx hc hbw hra
          go_wp2_with fail
          have HS : Hid (([y0 + x.a0, y1 + x.a1, y2 + x.a2, y3 + x.a3, y4 + x.a4, y5 + x.a5].any (Post.outB 1152921504606846976) = true → Post.sums l = ⟨14, 0, Post.zeros6⟩) ∧
              ([y0 + x.a0, y1 + x.a1, y2 + x.a2, y3 + x.a3, y4 + x.a4, y5 + x.a5].any (Post.outB 1152921504606846976) = false → Post.run Post.zeros6 (l.map Pst.am) = Post.run [y0 + x.a0, y1 + x.a1, y2 + x.a2, y3 + x.a3, y4 + x.a4, y5 + x.a5] ((l.drop (k + 1)).map Pst.am))) := Lib.hid (by
            rw [← HZ.out]
            exact ⟨fun h => Post.sums_far HQ.out (by rw [HRU.out, Post.run_out h]), fun h => by rw [HRU.out, Post.run_on h]⟩)
          clear c0 c1 c2 c3 c4 c5 c6 c7 c8 c9 HY HAB HRU HZ v0 v1 v2 v3 v4 v5 u0 u1 u2 u3 u4 u5 hc3 hf3
          generalize y0 + x.a0 = z0 at *
          generalize y1 + x.a1 = z1 at *
          generalize y2 + x.a2 = z2 at *
          generalize y3 + x.a3 = z3 at *
          generalize y4 + x.a4 = z4 at *
          generalize y5 + x.a5 = z5 at *
          obtain ⟨ba, hba⟩ : ∃ n, wr.heap.size + 1 = n := ⟨_, rfl⟩
          rw [hba]
          go_loopw [9] (fun i wi => ∃ j : Nat, j ≤ 6 ∧ i = .int .i64 j ∧ Below w.heap.size w wi ∧ bt < wi.heap.size ∧
            wi.heap[w.heap.size]? = some (.cells #[.int .i64 0, .int .i64 0, .int .i64 0, .int .i64 0, .int .i64 0, .int .i64 0, .int .i64 0] 41 (0, 0)) ∧
            wi.heap[bt]? = some (.cells #[.int .i64 ((k : Int) + 1), .int .i64 z0, .int .i64 z1, .int .i64 z2, .int .i64 z3, .int .i64 z4, .int .i64 z5] 41 (0, 0)) ∧
            wi.heap[ba]? = some (.cells (Post.amRow [z0, z1, z2, z3, z4, z5]) 2 (0, 0)) ∧
            ([z0, z1, z2, z3, z4, z5] : List Int).any (Post.outB 1152921504606846976) = (([z0, z1, z2, z3, z4, z5] : List Int).drop j).any (Post.outB 1152921504606846976)) (fun i _ => 6 - (intOf i).toNat)
          case atStart =>
            refine ⟨0, by omega, rfl, ?_, ?_, ?_, ?_, ?_, rfl⟩
            · exact balloc (balloc (seven_below HBW.out (by omega) _ _ _ _ _ _ _) _) _
            · simp; omega
            · exact row_alloc (row_alloc (seven_far HRT.out (by omega) _ _ _ _ _ _ _) _) _
            · exact row_alloc (row_alloc (seven_row HRA.out _ _ _ _ _ _ _) _) _
            · exact new_row _ _ _ (by simp; omega)
          case round =>
            clear HRT HRA HBW hba HRUN hsz
            obtain ⟨j, hj, rfl, hbi, hsi, hri, hti, hai, hany⟩ := hrel
            have HRI := Lib.hid hri
            have HTI := Lib.hid hti; clear hti
            have HBI := Lib.hid hbi; clear hbi
            have HANY := Lib.hid hany; clear hany
            by_cases hj6 : j < 6
            · have hcell : wr.cell? ⟨ba, j, none⟩ = some (.int .i64 (([z0, z1, z2, z3, z4, z5] : List Int).getD j 0)) := by
                rw [cell_of_row wr _ j _ _ _ hai, Post.amRow_at (by exact hj6)]
              have hdr : ([z0, z1, z2, z3, z4, z5] : List Int).drop j = ([z0, z1, z2, z3, z4, z5] : List Int).getD j 0 :: ([z0, z1, z2, z3, z4, z5] : List Int).drop (j + 1) := by
                rw [List.drop_eq_getElem_cons (by exact hj6)]
                simp [List.getD_eq_getElem?_getD, List.getElem?_eq_getElem (show j < ([z0, z1, z2, z3, z4, z5] : List Int).length from hj6)]
              have HDR := Lib.hid hdr; clear hdr
              have HAI := Lib.hid hai; clear hai
              generalize ([z0, z1, z2, z3, z4, z5] : List Int).getD j 0 = z at *
              by_cases hout : z < -1152921504606846976 ∨ 1152921504606846976 < z
              · have ho : Post.outB 1152921504606846976 z = true := by unfold Post.outB; simp; omega
                have h := HSUM.out
                rw [HS.out.1 (by rw [HANY.out, HDR.out, Post.any_step ho]; rfl)] at h
                injection h with g1 g2 g3
                subst g1; subst g2
                injection g3 with e0 g3; injection g3 with e1 g3; injection g3 with e2 g3; injection g3 with e3 g3; injection g3 with e4 g3; injection g3 with e5 g3
                subst e0; subst e1; subst e2; subst e3; subst e4; subst e5
                clear ho HSUM
                have hc3 := fun j => cell_of_row wr w.heap.size j _ _ _ hri
                have hf3 := fun j => frozen_of_row wr w.heap.size j _ _ hri
                clear hri
                rcases hout with hout | hout
                all_goals
                  go_wp2
                  have hrow := seven_row HRI.out (.int .i64 0) (.int .i64 0) (.int .i64 0) (.int .i64 0) (.int .i64 0) (.int .i64 0) (.int .i64 0)
                  refine bodyPost_ret (v := .tuple #[.agg #[.int .i64 0, .int .i64 0, .int .i64 0, .int .i64 0, .int .i64 0, .int .i64 0, .int .i64 0], .int .i64 14]) (by simp [results, Try.results71, go_sem, fun i => cell_of_row _ _ i _ _ _ hrow]) rfl ⟨rfl, ?_⟩
                  exact seven_below HBI.out (by simp) _ _ _ _ _ _ _
              · have HO : Hid (Post.outB 1152921504606846976 z = false) := Lib.hid (by unfold Post.outB; simp; omega)
                have hz1 : -1152921504606846976 ≤ z := by omega
                have hz2 : z ≤ 1152921504606846976 := by omega
                clear hout hri
                go_wp2
                go_roundw
                case rel => exact ⟨j + 1, by omega, by go_num, HBI.out, hsi, HRI.out, HTI.out, HAI.out, by rw [HANY.out, HDR.out, Post.any_step HO.out]; rfl⟩
                case measure => simp [intOf]; omega
            · obtain rfl : j = 6 := by omega
              have HAF : Hid (([z0, z1, z2, z3, z4, z5] : List Int).any (Post.outB 1152921504606846976) = false) := Lib.hid (by rw [HANY.out]; rfl)
              clear hri hai
              go_wp2
              go_roundw
              case rel => exact ⟨k + 1, z0, z1, z2, z3, z4, z5, by omega, by go_num, HBI.out, hsi, HRI.out, HTI.out, HAF.out, HS.out.2 HAF.out⟩
              case measure => simp [intOf]; omega
        · obtain rfl : k = n := by omega
          have HT : Hid (Post.sums l = ⟨0, l.length, [y0, y1, y2, y3, y4, y5]⟩) := Lib.hid (Post.sums_are HQ.out (by rw [HRUN.out, List.drop_of_length_le (by have := HN.out; omega)]; rfl))
          have h := HSUM.out
          rw [HT.out, ← HN.out] at h
          injection h with g1 g2 g3
          injection g3 with e0 g3; injection g3 with e1 g3; injection g3 with e2 g3; injection g3 with e3 g3; injection g3 with e4 g3; injection g3 with e5 g3
          subst g1; subst g2; subst e0; subst e1; subst e2; subst e3; subst e4; subst e5
          have hc4 := fun j => cell_of_row wr w.heap.size j _ _ _ HRT.out
          have hf4 := fun j => frozen_of_row wr w.heap.size j _ _ HRT.out
          clear HT HSUM hbw hra HY
          go_wp2
          have hrow := seven_row HRT.out (.int .i64 k) (.int .i64 y0) (.int .i64 y1) (.int .i64 y2) (.int .i64 y3) (.int .i64 y4) (.int .i64 y5)
          refine bodyPost_ret (v := .tuple #[.agg #[.int .i64 k, .int .i64 y0, .int .i64 y1, .int .i64 y2, .int .i64 y3, .int .i64 y4, .int .i64 y5], .int .i64 0]) (by simp [results, Try.results71, go_sem, fun i => cell_of_row _ _ i _ _ _ hrow]) rfl ⟨rfl, ?_⟩
          exact seven_below HBW.out (by simp) _ _ _ _ _ _ _
end Go.Proofs.Ytajpggnmhkpbkaa
