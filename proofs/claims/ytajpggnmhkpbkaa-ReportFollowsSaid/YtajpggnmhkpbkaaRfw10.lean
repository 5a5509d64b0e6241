/- Contracts: posting.Sum and the reference's Sum. -/
import Derived.Test.YtajpggnmhkpbkaaRfw9

set_option linter.unusedVariables false
set_option linter.unusedSimpArgs false
namespace Go.Proofs.Ytajpggnmhkpbkaa
open Go.ChangeShapes Go.WideShapes Go.ChangeAt Go.RowKit

theorem bset {B : Nat} {a w : World} (h : Below B a w) {p : Addr} (hp : B ≤ p.block) (u : Value) : Below B a (w.setCell p u) := h.setCell hp u
theorem run_index_at {P : Program} {w : World} {t e : TypeId} {n : Nat} {cs : Array Value} {j : Nat} {v : Value} (h : P.underlying t = some (.array n e)) (ha : ∀ w, (isAgg e).run P w = .ok false w) (hz : ∀ w, (sizeOf e).run P w = .ok 1 w)
    (hj : j < n) (hv : cs[j]? = some v) : (Instr.index t (.agg cs) (.int .i64 j)).run P w = .ok v w := by
  simp [Instr.index, run_underlying h, asIntOf, go_sem, part, ha, hz, hj, hv]
theorem run_am_at (am : List Int) (h : am.length = 6) (j : Nat) (hj : j < 6) (W : World) : (Instr.index 109 (.agg (Post.amRow am)) (.int .i64 j)).run Try.prog W = .ok (.int .i64 (am.getD j 0)) W :=
  run_index_at Try.underlying109 (by intro w; simp [go_sem]) (by intro w; simp [go_sem]) hj (Post.amRow_at (by omega))
def idxSum : List Pst → Int → Int
  | [], _ => -1
  | z :: zs, i => if z.may = true then idxSum zs (i + 1) else i
theorem idxSum_any (zs : List Pst) (i : Int) (hi : 0 ≤ i) : decide (0 ≤ idxSum zs i) = zs.any (fun p => !p.may) := by
  induction zs generalizing i with
  | nil => simp [idxSum]
  | cons z zs ih =>
    unfold idxSum
    by_cases h : z.may = true
    · rw [if_pos h, ih (i + 1) (by omega)]; simp [h]
    · rw [if_neg h]; simp [h, hi]
theorem idxSum_miss {z : Pst} (h : z.may = true) (zs : List Pst) (i : Int) : idxSum (z :: zs) i = idxSum zs (i + 1) := by
  show (if z.may = true then idxSum zs (i + 1) else i) = _
  rw [h]; rfl
theorem idxSum_hit {z : Pst} (h : z.may = false) (zs : List Pst) (i : Int) : idxSum (z :: zs) i = i := by
  show (if z.may = true then idxSum zs (i + 1) else i) = _
  rw [h]; rfl
theorem drop_at {α : Type} {l : List α} {k : Nat} {x : α} (h : l[k]? = some x) : l.drop k = x :: l.drop (k + 1) := by
  obtain ⟨hk, hx⟩ := List.getElem?_eq_some_iff.1 h
  rw [List.drop_eq_getElem_cons hk, hx]

theorem seven_row {w : World} {g : Nat} {t : TypeId} {z0 z1 z2 z3 z4 z5 z6 : Value} (h : w.heap[g]? = some (.cells #[z0, z1, z2, z3, z4, z5, z6] t (0, 0))) (v0 v1 v2 v3 v4 v5 v6 : Value) :
    (((((((w.setCell ⟨g, 0, none⟩ v0).setCell ⟨g, 1, none⟩ v1).setCell ⟨g, 2, none⟩ v2).setCell ⟨g, 3, none⟩ v3).setCell ⟨g, 4, none⟩ v4).setCell ⟨g, 5, none⟩ v5).setCell ⟨g, 6, none⟩ v6).heap[g]? = some (.cells #[v0, v1, v2, v3, v4, v5, v6] t (0, 0)) := by
  rw [heap_setCell_same _ _ _ _ _ _ (heap_setCell_same _ _ _ _ _ _ (heap_setCell_same _ _ _ _ _ _ (heap_setCell_same _ _ _ _ _ _ (heap_setCell_same _ _ _ _ _ _ (heap_setCell_same _ _ _ _ _ _ (heap_setCell_same _ _ _ _ _ _ h))))))]
  rfl
theorem of_pst_any (x : Pst) (w : World) :
    Calls Try.prog 79 #[.agg #[.int .i64 x.d, .int .u64 x.t, .int .i64 x.s, .int .i64 x.k, .int .i64 x.a0, .int .i64 x.a1, .int .i64 x.a2, .int .i64 x.a3, .int .i64 x.a4, .int .i64 x.a5]] w
      fun e w' => e = .returned (.agg (Post.amRow x.am)) ∧ Below w.heap.size w w' := of_post_any _ _ _ _ _ _ _ _ _ _ w

set_option maxHeartbeats 400000 in
theorem sumFn_any (x : Pst) (hx : x.wf) (w : World) :
    Calls Try.prog 83 #[.agg #[.int .i64 x.d, .int .u64 x.t, .int .i64 x.s, .int .i64 x.k, .int .i64 x.a0, .int .i64 x.a1, .int .i64 x.a2, .int .i64 x.a3, .int .i64 x.a4, .int .i64 x.a5]] w
      fun e w' => e = .returned (.bool (!x.may)) ∧ Below w.heap.size w w' := by
  obtain ⟨d, t, s, k, a0, a1, a2, a3, a4, a5⟩ := x
  have HB := Lib.hid (u64_bd hx.2.1)
  obtain ⟨q, hq⟩ : ∃ q, Pst.may ⟨d, t, s, k, a0, a1, a2, a3, a4, a5⟩ = q := ⟨_, rfl⟩
  have HQ : Hid (Post.may d t s k [a0, a1, a2, a3, a4, a5] = q) := Lib.hid hq
  rw [hq]
  clear hq hx
  go_enter Try.func83, Try.ntmps83
  go_wp2_with fail
  refine (may_any _ _ _ _ _ _ _ _ _ _ HB.out.1 (by have := HB.out.2; omega) _).mono ?_
  rintro e w1 ⟨rfl, hb1⟩
  rw [HQ.out]
  go_wp2
  go_ret
  exact ⟨rfl, below_call (balloc (Below.refl _ _) _) hb1⟩

set_option maxHeartbeats 1000000 in
theorem indexSum_any (l : List Pst) (p : Option Addr) (n cap : Nat) (hn : n = l.length) (w : World) (hs : PS w (.slice p n cap) l) :
    Calls Try.prog 84 #[.slice p n cap, .func (.func 83) #[] #[]] w
      fun e w' => e = .returned (.int .i64 (idxSum l 0)) ∧ Below w.heap.size w w' := by
  obtain ⟨p', cap', e, h2, h3, h4, h5⟩ := hs
  injection e with e1 e2 e3
  subst e1; subst e3
  have H5 := Lib.hid h5; clear h5
  have H4 := Lib.hid h4; clear h4
  rw [← hn] at h2
  have HN := Lib.hid hn; clear hn e2
  unfold maxLen at h3
  go_enter Try.func84, Try.ntmps84
  go_wp2
  go_loopw [8] (fun i wr => ∃ k : Nat, k ≤ n ∧ i = .int .i64 k ∧ Below w.heap.size w wr ∧ idxSum l 0 = idxSum (l.drop k) k) (fun i _ => n - (intOf i).toNat)
  case atStart => exact ⟨0, Nat.zero_le _, rfl, Below.refl _ _, rfl⟩
  case round =>
    obtain ⟨k, hk, rfl, hbw, hx⟩ := hrel
    have HX := Lib.hid hx; clear hx
    by_cases hlt : k < n
    · obtain ⟨x, hx⟩ : ∃ x, l[k]? = some x := ⟨_, List.getElem?_eq_getElem (by have := HN.out; omega)⟩
      obtain ⟨b, o, rfl, hbs, hc⟩ := H5.out (by intro h; subst h; simp at hx)
      have hat := (hc k x hx).of_cells (w' := wr) fun j => hbw.cell (p := ⟨b, j, none⟩) hbs
      have HD := Lib.hid (drop_at hx)
      have HW := Lib.hid (H4.out x (List.mem_of_getElem? hx))
      unfold PAt at hat
      obtain ⟨c0, c1, c2, c3, c4, c5, c6, c7, c8, c9⟩ := hat
      clear hx hc
      obtain ⟨q, hq⟩ : ∃ q, x.may = q := ⟨_, rfl⟩
      have HQ := Lib.hid hq; clear hq
      go_wp2_with fail
      refine (sumFn_any x HW.out _).mono ?_
      rintro e w1 ⟨rfl, hb1⟩
      rw [HQ.out]
      have hb2 := below_call hbw hb1
      cases q
      · go_wp2
        go_ret
        exact ⟨ret_int (by rw [HX.out, HD.out, idxSum_hit HQ.out]), hb2⟩
      · go_wp2
        go_roundw
        case rel => exact ⟨k + 1, by omega, by go_num, hb2, by rw [HX.out, HD.out, idxSum_miss HQ.out]; rfl⟩
        case measure => simp [intOf]; omega
    · obtain rfl : k = n := by omega
      go_wp2
      go_ret
      exact ⟨ret_int (by rw [HX.out, List.drop_of_length_le (by have := HN.out; omega)]; rfl), hbw⟩

set_option maxHeartbeats 400000 in
theorem containsSum_any (l : List Pst) (p : Option Addr) (n cap : Nat) (hn : n = l.length) (w : World) (hs : PS w (.slice p n cap) l) :
    Calls Try.prog 65 #[.slice p n cap, .func (.func 83) #[] #[]] w
      fun e w' => e = .returned (.bool (l.any (fun p => !p.may))) ∧ Below w.heap.size w w' := by
  have HI := Lib.hid (indexSum_any l p n cap hn w hs)
  have HA := Lib.hid (idxSum_any l 0 (Int.le_refl 0))
  clear hs hn
  go_enter Try.func65, Try.ntmps65
  go_wp2_with fail
  refine HI.out.mono ?_
  rintro e w' ⟨rfl, hb⟩
  go_wp2
  go_ret
  exact ⟨ret_bool HA.out, hb⟩

set_option maxRecDepth 4000 in
set_option maxHeartbeats 1000000 in
theorem sum_any (l : List Pst) (p : Option Addr) (n cap : Nat) (hn : n = l.length) (w : World) (hs : PS w (.slice p n cap) l) (ev m x0 x1 x2 x3 x4 x5 : Int) (hsum : Post.sums l = ⟨ev, m, [x0, x1, x2, x3, x4, x5]⟩) :
    Calls Try.prog 64 #[.slice p n cap] w
      fun e w' => e = .returned (.tuple #[.agg #[.int .i64 m, .int .i64 x0, .int .i64 x1, .int .i64 x2, .int .i64 x3, .int .i64 x4, .int .i64 x5], .int .i64 ev]) ∧ Below w.heap.size w w' := by
  have HI := Lib.hid (containsSum_any l p n cap hn)
  have HS := Lib.hid hs
  obtain ⟨p', cap', e, h2, h3, h4, h5⟩ := hs
  injection e with e1 e2 e3
  subst e1; subst e3
  have H5 := Lib.hid h5; clear h5
  have H4 := Lib.hid h4; clear h4
  rw [← hn] at h2
  have HN := Lib.hid hn; clear hn e2
  unfold maxLen at h3
  have HSUM := Lib.hid hsum; clear hsum
  obtain ⟨q, hq⟩ : ∃ q, l.any (fun p => !p.may) = q := ⟨_, rfl⟩
  rw [hq] at HI
  have HQ := Lib.hid hq; clear hq
  go_enter Try.func64, Try.ntmps64
  go_wp2_with fail
  refine (HI.out _ (HS.out.below (balloc (Below.refl _ _) _))).mono ?_
  rintro e w1 ⟨rfl, hb1⟩
  have hz1 : w.heap.size < w1.heap.size := by have := hb1.size; simp at this; omega
  have hc1 := bcell hb1
  obtain ⟨hc1, hf1⟩ := hc1
  have hr1 : w1.heap[w.heap.size]? = some (.cells #[.int .i64 0, .int .i64 0, .int .i64 0, .int .i64 0, .int .i64 0, .int .i64 0, .int .i64 0] 41 (0, 0)) := by
    rw [hb1.block w.heap.size (by simp)]
    show (w.heap.push _)[w.heap.size]? = _
    simp
  have HB1 : Hid (Below w.heap.size w w1) := Lib.hid ((balloc (Below.refl _ _) _).trans (hb1.mono (by simp)))
  have HR1 := Lib.hid hr1
  cases q
  · clear hc1 hf1 hr1 hb1 HI
    go_wp2
    go_loopw [14] (fun i wr => ∃ (k : Nat) (ds : List Int), k ≤ n ∧ i = .int .i64 k ∧ Below w.heap.size w wr ∧ w1.heap.size < wr.heap.size ∧
        wr.heap[w.heap.size]? = some (.cells #[.int .i64 0, .int .i64 0, .int .i64 0, .int .i64 0, .int .i64 0, .int .i64 0, .int .i64 0] 41 (0, 0)) ∧
        wr.heap[w1.heap.size]? = some (.cells (Post.amRow ds) 109 (0, 0)) ∧ ds.length = 6 ∧ ds.any (Post.outB 1152921504606846976) = false ∧
        Post.run Post.zeros6 (l.map Pst.am) = Post.run ds ((l.drop k).map Pst.am)) (fun i _ => n - (intOf i).toNat)
    case atStart =>
      refine ⟨0, Post.zeros6, Nat.zero_le _, rfl, balloc HB1.out _, by simp, ?_, ?_, rfl, by decide, rfl⟩
      · exact (Below.heap_alloc w1 _ _ hz1).trans HR1.out
      · show (w1.heap.push _)[w1.heap.size]? = _
        simp [Post.amRow, Post.zeros6]
    case round =>
      obtain ⟨k, ds, hk, rfl, hbw, hsz, hrt, hra, hlen, hbd, hrun⟩ := hrel
      have HRT := Lib.hid hrt; clear hrt
      have HRA := Lib.hid hra; clear hra
      have HRUN := Lib.hid hrun; clear hrun
      have HBD := Lib.hid hbd; clear hbd
      have HL := Lib.hid hlen; clear hlen
      have HBW := Lib.hid hbw
      by_cases hlt : k < n
      · obtain ⟨x, hx⟩ : ∃ x, l[k]? = some x := ⟨_, List.getElem?_eq_getElem (by have := HN.out; omega)⟩
        obtain ⟨b, o, rfl, hbs, hc⟩ := H5.out (by intro h; subst h; simp at hx)
        have hat := (hc k x hx).of_cells (w' := wr) fun j => hbw.cell (p := ⟨b, j, none⟩) hbs
        have HD := Lib.hid (drop_at hx)
        have HM : Hid (x.may = true) := Lib.hid (by
          have h := List.any_eq_false.1 HQ.out x (List.mem_of_getElem? hx)
          simpa using h)
        unfold PAt at hat
        obtain ⟨c0, c1, c2, c3, c4, c5, c6, c7, c8, c9⟩ := hat
        clear hx hc hbw
        have HSZ := Lib.hid hsz
        go_wp2_with fail
        refine (of_pst_any x _).mono ?_
        rintro e w2 ⟨rfl, hb2⟩
        clear c0 c1 c2 c3 c4 c5 c6 c7 c8 c9
        have hz2 : wr.heap.size < w2.heap.size := by have := hb2.size; simp at this; omega
        have HB2 : Hid (Below wr.heap.size wr w2) := Lib.hid ((balloc (Below.refl _ _) _).trans (hb2.mono (by simp)))
        clear hb2
        have HAL : Hid (x.am.length = 6) := Lib.hid rfl
        have HAB := Lib.hid (Post.may_bound HM.out)
        have HRU : Hid (Post.run Post.zeros6 (l.map Pst.am) = Post.run ds (x.am :: (l.drop (k + 1)).map Pst.am)) := Lib.hid (by rw [HRUN.out, HD.out]; rfl)
        generalize x.am = am at *
        go_wp2_with fail
        go_loopw [20] (fun i wi => ∃ j : Nat, j ≤ 6 ∧ i = .int .i64 j ∧ Below w.heap.size w wi ∧ w1.heap.size < wi.heap.size ∧
          wi.heap[w.heap.size]? = some (.cells #[.int .i64 0, .int .i64 0, .int .i64 0, .int .i64 0, .int .i64 0, .int .i64 0, .int .i64 0] 41 (0, 0)) ∧
          wi.heap[w1.heap.size]? = some (.cells (Post.amRow (Post.part j ds am)) 109 (0, 0))) (fun i _ => 6 - (intOf i).toNat)
        case atStart =>
          refine ⟨0, by omega, rfl, HBW.out.trans (HB2.out.mono HBW.out.size), by have := HSZ.out; omega, ?_, ?_⟩
          · exact (HB2.out.block _ (by have := HSZ.out; omega)).trans HRT.out
          · rw [Post.part_zero]; exact (HB2.out.block _ HSZ.out).trans HRA.out
        case round =>
          obtain ⟨j, hj, rfl, hbi, hsi, hri, hai⟩ := hrel
          have HBI := Lib.hid hbi; clear hbi
          have HRI := Lib.hid hri; clear hri
          have HAI := Lib.hid hai; clear hai
          by_cases hj6 : j < 6
          · have hv := run_am_at am HAL.out j hj6
            have hcell : wr.cell? ⟨w1.heap.size, j, none⟩ = some (.int .i64 (ds.getD j 0)) := by
              rw [cell_of_row wr _ j _ _ _ HAI.out, Post.amRow_at (by rw [Post.part_length HL.out HAL.out j hj]; omega), Post.part_at HL.out HAL.out hj6]
            have hfr := frozen_of_row wr _ j _ _ HAI.out
            have hz1b := Post.any_getD HBD.out (i := j) (by have := HL.out; omega)
            have hz2b := Post.any_getD HAB.out (i := j) (by have := HAL.out; omega)
            obtain ⟨z1l, z1u⟩ := hz1b
            obtain ⟨z2l, z2u⟩ := hz2b
            have HST : Hid (∀ v, v = ds.getD j 0 + am.getD j 0 → (wr.setCell ⟨w1.heap.size, j, none⟩ (.int .i64 v)).heap[w1.heap.size]? = some (.cells (Post.amRow (Post.part (j + 1) ds am)) 109 (0, 0))) := Lib.hid (by
              rintro v rfl
              rw [heap_setCell_same wr _ j _ _ _ HAI.out, Post.amRow_put, Post.part_set HL.out HAL.out hj6])
            generalize ds.getD j 0 = z1 at *
            generalize am.getD j 0 = z2 at *
            go_wp2
            go_roundw
            case rel =>
              exact ⟨j + 1, by omega, by go_num, bset HBI.out (by simp; omega) _, by simpa using hsi, (heap_setCell_other wr _ _ _ (by simp; omega)).trans HRI.out, HST.out _ (by go_num)⟩
            case measure => simp [intOf]; omega
          · obtain rfl : j = 6 := by omega
            have hai := HAI.out
            rw [Post.part_six HL.out HAL.out] at hai
            have hlen := Post.addAm_length HL.out HAL.out
            have HRN : Hid (∀ ys, Post.addAm ds am = ys → (ys.any (Post.outB 1152921504606846976) = true → Post.sums l = ⟨14, 0, Post.zeros6⟩) ∧
                (ys.any (Post.outB 1152921504606846976) = false → Post.run Post.zeros6 (l.map Pst.am) = Post.run ys ((l.drop (k + 1)).map Pst.am))) := Lib.hid (by
              rintro ys rfl
              refine ⟨fun h => ?_, fun h => ?_⟩
              · exact Post.sums_far HQ.out (by rw [HRU.out, Post.run_out h])
              · rw [HRU.out, Post.run_on h])
            obtain ⟨y0, y1, y2, y3, y4, y5, hy⟩ := Post.six_of hlen
            have HYS := HRN.out _ hy
            rw [hy] at hai
            clear hlen hy HRN HAI
            have hcl := fun i => cell_of_row wr _ i _ _ _ hai
            have k0 := hcl 0
            have k1 := hcl 1
            have k2 := hcl 2
            have k3 := hcl 3
            have k4 := hcl 4
            have k5 := hcl 5
            simp [Post.amRow] at k0 k1 k2 k3 k4 k5
            have HAI := Lib.hid hai
            clear hcl hai
            go_wp2_with fail
            refine (out_any [y0, y1, y2, y3, y4, y5] 1152921504606846976 rfl (by decide) (by decide) _).mono ?_
            rintro e w3 ⟨rfl, hb3⟩
            have HYS := Lib.hid HYS
            clear k0 k1 k2 k3 k4 k5
            obtain ⟨q, hq⟩ : ∃ q, ([y0, y1, y2, y3, y4, y5] : List Int).any (Post.outB 1152921504606846976) = q := ⟨_, rfl⟩
            rw [hq]
            have HQ2 := Lib.hid hq; clear hq
            have hr3 := (hb3.block w.heap.size (by omega)).trans HRI.out
            have HR3 := Lib.hid hr3
            have HA3 := Lib.hid ((hb3.block w1.heap.size (by omega)).trans HAI.out)
            have HB3 := Lib.hid (HBI.out.trans (hb3.mono HBI.out.size))
            have hs3 : w1.heap.size < w3.heap.size := Nat.lt_of_lt_of_le hsi hb3.size
            clear hb3
            cases q
            · clear hr3
              go_wp2
              go_roundw
              case rel => exact ⟨k + 1, [y0, y1, y2, y3, y4, y5], by omega, by go_num, HB3.out, hs3, HR3.out, HA3.out, rfl, HQ2.out, HYS.out.2 HQ2.out⟩
              case measure => simp [intOf]; omega
            · have hc3 := fun j => cell_of_row w3 w.heap.size j _ _ _ hr3
              have hf3 := fun j => frozen_of_row w3 w.heap.size j _ _ hr3
              have h := HSUM.out
              rw [HYS.out.1 HQ2.out] at h
              injection h with g1 g2 g3
              subst g1; subst g2
              injection g3 with y0 g3; injection g3 with y1 g3; injection g3 with y2 g3; injection g3 with y3 g3; injection g3 with y4 g3; injection g3 with y5 g3
              subst y0; subst y1; subst y2; subst y3; subst y4; subst y5
              clear HSUM hr3
              go_wp2
              have hrow := seven_row HR3.out (.int .i64 0) (.int .i64 0) (.int .i64 0) (.int .i64 0) (.int .i64 0) (.int .i64 0) (.int .i64 0)
              refine bodyPost_ret (v := .tuple #[.agg #[.int .i64 0, .int .i64 0, .int .i64 0, .int .i64 0, .int .i64 0, .int .i64 0, .int .i64 0], .int .i64 14]) (by simp [results, Try.results64, go_sem, fun i => cell_of_row _ _ i _ _ _ hrow]) rfl ⟨rfl, ?_⟩
              exact bset (bset (bset (bset (bset (bset (bset HB3.out (by simp) _) (by simp) _) (by simp) _) (by simp) _) (by simp) _) (by simp) _) (by simp) _
      · obtain rfl : k = n := by omega
        obtain ⟨y0, y1, y2, y3, y4, y5, rfl⟩ := Post.six_of HL.out
        have HT : Hid (Post.sums l = ⟨0, l.length, [y0, y1, y2, y3, y4, y5]⟩) := Lib.hid (Post.sums_are HQ.out (by rw [HRUN.out, List.drop_of_length_le (by have := HN.out; omega)]; rfl))
        have h := HSUM.out
        rw [HT.out, ← HN.out] at h
        injection h with g1 g2 g3
        injection g3 with e0 g3; injection g3 with e1 g3; injection g3 with e2 g3; injection g3 with e3 g3; injection g3 with e4 g3; injection g3 with e5 g3
        subst g1; subst g2; subst e0; subst e1; subst e2; subst e3; subst e4; subst e5
        have hcl := fun i => cell_of_row wr w1.heap.size i _ _ _ HRA.out
        have k0 := hcl 0
        have k1 := hcl 1
        have k2 := hcl 2
        have k3 := hcl 3
        have k4 := hcl 4
        have k5 := hcl 5
        simp [Post.amRow] at k0 k1 k2 k3 k4 k5
        have hc3 := fun j => cell_of_row wr w.heap.size j _ _ _ HRT.out
        have hf3 := fun j => frozen_of_row wr w.heap.size j _ _ HRT.out
        clear hcl HT HSUM hbw
        go_wp2
        have hrow := seven_row HRT.out (.int .i64 k) (.int .i64 y0) (.int .i64 y1) (.int .i64 y2) (.int .i64 y3) (.int .i64 y4) (.int .i64 y5)
        refine bodyPost_ret (v := .tuple #[.agg #[.int .i64 k, .int .i64 y0, .int .i64 y1, .int .i64 y2, .int .i64 y3, .int .i64 y4, .int .i64 y5], .int .i64 0]) (by simp [results, Try.results64, go_sem, fun i => cell_of_row _ _ i _ _ _ hrow]) rfl ⟨rfl, ?_⟩
        exact bset (bset (bset (bset (bset (bset (bset HBW.out (by simp) _) (by simp) _) (by simp) _) (by simp) _) (by simp) _) (by simp) _) (by simp) _
  · have h := HSUM.out
    rw [Post.sums_not HQ.out] at h
    injection h with g1 g2 g3
    subst g1; subst g2
    injection g3 with y0 g3; injection g3 with y1 g3; injection g3 with y2 g3; injection g3 with y3 g3; injection g3 with y4 g3; injection g3 with y5 g3
    subst y0; subst y1; subst y2; subst y3; subst y4; subst y5
    clear HSUM
    go_wp2
    have hrow := seven_row HR1.out (.int .i64 0) (.int .i64 0) (.int .i64 0) (.int .i64 0) (.int .i64 0) (.int .i64 0) (.int .i64 0)
    refine bodyPost_ret (v := .tuple #[.agg #[.int .i64 0, .int .i64 0, .int .i64 0, .int .i64 0, .int .i64 0, .int .i64 0, .int .i64 0], .int .i64 2]) (by simp [results, Try.results64, go_sem, fun i => cell_of_row _ _ i _ _ _ hrow]) rfl ⟨rfl, ?_⟩
    exact bset (bset (bset (bset (bset (bset (bset HB1.out (by simp) _) (by simp) _) (by simp) _) (by simp) _) (by simp) _) (by simp) _) (by simp) _
end Go.Proofs.Ytajpggnmhkpbkaa
