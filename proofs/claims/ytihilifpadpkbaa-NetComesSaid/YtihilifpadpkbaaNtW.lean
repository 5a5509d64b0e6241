/- Which nets are the same (net.Same, Alike). -/
import Derived.Test.YtihilifpadpkbaaNtV
import Derived.Test.YtihilifpadpkbaaLater
set_option linter.unusedVariables false
set_option linter.unusedSimpArgs false
namespace Go.Proofs.Ytihilifpadpkbaa
open Go.RowKit Nt

theorem hd_ext : ∀ {l m : List Hd}, l.map (·.l) = m.map (·.l) → l.map (·.age) = m.map (·.age) → l = m
  | [], [], _, _ => rfl
  | x :: l, y :: m, h1, h2 => by
    simp only [List.map_cons, List.cons.injEq] at h1 h2
    obtain ⟨xl, xa⟩ := x
    obtain ⟨yl, ya⟩ := y
    rw [hd_ext h1.2 h2.2]
    have e1 : xl = yl := h1.1
    have e2 : xa = ya := h2.1
    rw [e1, e2]
  | [], _ :: _, h1, _ => by simp at h1
  | _ :: _, [], h1, _ => by simp at h1

set_option maxRecDepth 4000 in
set_option maxHeartbeats 4000000 in
theorem nsame_any (w : World) (B B' g g' : Nat) (k : Int) (c c' : Bool) (v v' : Value) (all all' : List Hd) (h : IsN w B g k c v all) (h' : IsN w B' g' k c' v' all') (hk : 0 < k) (bv : Bool) (hbv : bv = true ↔ c = c' ∧ all = all') :
    Calls Try.prog 21 #[.pointer (some ⟨g, 0, none⟩), .pointer (some ⟨g', 0, none⟩)] w fun e w' => e = .returned (.bool bv) ∧ Below w.heap.size w w' := by
  have HT := Lib.hid (nthere_any w B g k c v all h hk)
  have HT' := Lib.hid (nthere_any w B' g' k c' v' all' h' hk)
  obtain ⟨qv, cv, rfl⟩ := rec_form h.2.2.1
  obtain ⟨qv', cv', rfl⟩ := rec_form h'.2.2.1
  obtain ⟨qe, hqe⟩ : ∃ qe : Bool, qe = true ↔ all = all' := ⟨by classical exact decide (all = all'), by simp⟩
  have HLS := Lib.hid (LS.of_own h.2.2.1 Hd.cells_length (by decide))
  have HLS' := Lib.hid (LS.of_own h'.2.2.1 Hd.cells_length (by decide))
  have HEQ := Lib.hid (fun u : Later w => equalHd_any all all' qe hqe qv qv' _ _ cv cv' u.val (HLS.out.below u.prop) (HLS'.out.below u.prop))
  have HBV := Lib.hid hbv; have HQE := Lib.hid hqe
  have c0 : w.cell? ⟨g, 0, none⟩ = some (.int .i64 k) := cell_of_row w g 0 _ _ _ h.2.1
  have c1 : w.cell? ⟨g, 1, none⟩ = some (.bool c) := cell_of_row w g 1 _ _ _ h.2.1
  have c2 : w.cell? ⟨g, 2, none⟩ = some (.slice qv all.length cv) := cell_of_row w g 2 _ _ _ h.2.1
  have d0 : w.cell? ⟨g', 0, none⟩ = some (.int .i64 k) := cell_of_row w g' 0 _ _ _ h'.2.1
  have d1 : w.cell? ⟨g', 1, none⟩ = some (.bool c') := cell_of_row w g' 1 _ _ _ h'.2.1
  have d2 : w.cell? ⟨g', 2, none⟩ = some (.slice qv' all'.length cv') := cell_of_row w g' 2 _ _ _ h'.2.1
  have l0 := block_lt h.2.1
  have l1 := block_lt h'.2.1
  generalize all.length = m at *
  generalize all'.length = m' at *
  clear h h' hbv hqe
  have hL := @Later.cell
  cases c <;> cases c'
  · have HQ : Hid (bv = qe) := Lib.hid (by rw [Bool.eq_iff_iff, HBV.out, HQE.out]; simp)
    go_enter Try.func21, Try.ntmps21
    go_wp2_with (go_at_call 27; first | (with_reducible refine HT.out.mono ?_; rintro e w' ⟨rfl, rfl⟩) | (with_reducible refine HT'.out.mono ?_; rintro e w' ⟨rfl, rfl⟩))
    refine wp_region_later (by kernel_rfl) (by kernel_rfl) ?_
    repeat (go_big_quiet_step (first | (go_at_call 37; with_reducible exact later_call (HEQ.out _))))
    refine wpQuiet_nil ?_
    rintro w2 ⟨u, rfl⟩
    have HB := Lib.hid u.prop
    generalize u.val = w3 at *
    clear c0 c1 c2 d0 d1 d2
    go_wp2
    go_ret
    exact ⟨ret_bool HQ.out.symm, HB.out⟩
  · have HQ : Hid (bv = false) := Lib.hid (by cases hb : bv; rfl; exact absurd (HBV.out.1 hb).1 (by simp))
    go_enter Try.func21, Try.ntmps21
    go_wp2_with (go_at_call 27; first | (with_reducible refine HT.out.mono ?_; rintro e w' ⟨rfl, rfl⟩) | (with_reducible refine HT'.out.mono ?_; rintro e w' ⟨rfl, rfl⟩))
    refine wp_region_later (by kernel_rfl) (by kernel_rfl) ?_
    repeat (go_big_quiet_step (first | (go_at_call 37; with_reducible exact later_call (HEQ.out _))))
    refine wpQuiet_nil ?_
    rintro w2 ⟨u, rfl⟩
    have HB := Lib.hid u.prop
    generalize u.val = w3 at *
    clear c0 c1 c2 d0 d1 d2
    go_wp2
    go_ret
    exact ⟨ret_bool HQ.out.symm, HB.out⟩
  · have HQ : Hid (bv = false) := Lib.hid (by cases hb : bv; rfl; exact absurd (HBV.out.1 hb).1 (by simp))
    go_enter Try.func21, Try.ntmps21
    go_wp2_with (go_at_call 27; first | (with_reducible refine HT.out.mono ?_; rintro e w' ⟨rfl, rfl⟩) | (with_reducible refine HT'.out.mono ?_; rintro e w' ⟨rfl, rfl⟩))
    refine wp_region_later (by kernel_rfl) (by kernel_rfl) ?_
    repeat (go_big_quiet_step (first | (go_at_call 37; with_reducible exact later_call (HEQ.out _))))
    refine wpQuiet_nil ?_
    rintro w2 ⟨u, rfl⟩
    have HB := Lib.hid u.prop
    generalize u.val = w3 at *
    clear c0 c1 c2 d0 d1 d2
    go_wp2
    go_ret
    exact ⟨ret_bool HQ.out.symm, HB.out⟩
  · have HQ : Hid (bv = qe) := Lib.hid (by rw [Bool.eq_iff_iff, HBV.out, HQE.out]; simp)
    go_enter Try.func21, Try.ntmps21
    go_wp2_with (go_at_call 27; first | (with_reducible refine HT.out.mono ?_; rintro e w' ⟨rfl, rfl⟩) | (with_reducible refine HT'.out.mono ?_; rintro e w' ⟨rfl, rfl⟩))
    refine wp_region_later (by kernel_rfl) (by kernel_rfl) ?_
    repeat (go_big_quiet_step (first | (go_at_call 37; with_reducible exact later_call (HEQ.out _))))
    refine wpQuiet_nil ?_
    rintro w2 ⟨u, rfl⟩
    have HB := Lib.hid u.prop
    generalize u.val = w3 at *
    clear c0 c1 c2 d0 d1 d2
    go_wp2
    go_ret
    exact ⟨ret_bool HQ.out.symm, HB.out⟩

set_option maxRecDepth 4000 in
set_option maxHeartbeats 4000000 in
theorem alike_any (w : World) (B B' g g' : Nat) (k : Int) (c c' : Bool) (lv av lv' av' : Value) (all all' : List Hd) (h : IsR w B g k c lv av all) (h' : IsR w B' g' k c' lv' av' all') (bv : Bool) (hbv : bv = true ↔ c = c' ∧ all = all') :
    Calls Try.prog 23 #[.pointer (some ⟨g, 0, none⟩), .pointer (some ⟨g', 0, none⟩)] w fun e w' => e = .returned (.bool bv) ∧ Below w.heap.size w w' := by
  obtain ⟨lp, lc, rfl⟩ := h.l.shape
  obtain ⟨lp', lc', rfl⟩ := h'.l.shape
  obtain ⟨ap, ac, rfl⟩ := h.a.shape
  obtain ⟨ap', ac', rfl⟩ := h'.a.shape
  obtain ⟨qe, hqe⟩ : ∃ qe : Bool, qe = true ↔ all.map (·.l) = all'.map (·.l) := ⟨by classical exact decide (all.map (·.l) = all'.map (·.l)), by simp⟩
  have HR := Lib.hid h.row; have HR' := Lib.hid h'.row
  have HEQ := Lib.hid (fun u : Later w => rSameLt_any (all.map (·.l)) (all'.map (·.l)) qe hqe lp lp' _ _ lc lc' u.val (h.l.below u.prop) (h'.l.below u.prop))
  have HBV := Lib.hid hbv; have HQE := Lib.hid hqe
  have HA := Lib.hid h.a; have HA' := Lib.hid h'.a
  have hml := h.a.length.2
  have hml' := h'.a.length.2
  unfold maxLen at hml hml'
  rw [List.length_map] at hml hml'
  clear h h' hbv hqe
  simp only [List.length_map] at HR HR' HEQ HA HA'
  obtain ⟨m, hm⟩ : ∃ m, all.length = m := ⟨_, rfl⟩
  obtain ⟨m', hm'⟩ : ∃ m, all'.length = m := ⟨_, rfl⟩
  have HM := Lib.hid hm; have HM' := Lib.hid hm'
  rw [hm] at HR HEQ HA hml
  rw [hm'] at HR' HEQ HA' hml'
  clear hm hm'
  have c0 : w.cell? ⟨g, 0, none⟩ = some (.int .i64 k) := cell_of_row w g 0 _ _ _ HR.out
  have c1 : w.cell? ⟨g, 1, none⟩ = some (.bool c) := cell_of_row w g 1 _ _ _ HR.out
  have c2 : w.cell? ⟨g, 2, none⟩ = some (.slice lp m lc) := cell_of_row w g 2 _ _ _ HR.out
  have d0 : w.cell? ⟨g', 0, none⟩ = some (.int .i64 k) := cell_of_row w g' 0 _ _ _ HR'.out
  have d1 : w.cell? ⟨g', 1, none⟩ = some (.bool c') := cell_of_row w g' 1 _ _ _ HR'.out
  have d2 : w.cell? ⟨g', 2, none⟩ = some (.slice lp' m' lc') := cell_of_row w g' 2 _ _ _ HR'.out
  have l0 := block_lt HR.out
  have l1 := block_lt HR'.out
  have hL := @Later.cell
  cases c <;> cases c'
  · cases qe
    · have HQ : Hid (bv = false) := Lib.hid (by cases hb : bv; rfl; exact absurd (HQE.out.2 (by rw [(HBV.out.1 hb).2])) (by simp))
      go_enter Try.func23, Try.ntmps23
      go_wp2_with fail
      refine wp_region_later (by kernel_rfl) (by kernel_rfl) ?_
      repeat (go_big_quiet_step (first | (go_at_call 26; with_reducible exact later_call (HEQ.out _))))
      refine wpQuiet_nil ?_
      rintro w2 ⟨u, rfl⟩
      have HB := Lib.hid u.prop
      generalize u.val = w3 at *
      clear c0 c1 c2 d0 d1 d2 hL
      go_wp2
      go_ret
      exact ⟨ret_bool HQ.out.symm, HB.out⟩
    · have HLL : Hid (all.map (·.l) = all'.map (·.l)) := Lib.hid (HQE.out.1 rfl)
      have HMM : m' = m := by have h1 := congrArg List.length HLL.out; rw [List.length_map, List.length_map, HM.out, HM'.out] at h1; exact h1.symm
      subst HMM
      go_enter Try.func23, Try.ntmps23
      go_wp2_with fail
      refine wp_region_later (by kernel_rfl) (by kernel_rfl) ?_
      repeat (go_big_quiet_step (first | (go_at_call 26; with_reducible exact later_call (HEQ.out _))))
      refine wpQuiet_nil ?_
      rintro w2 ⟨u, rfl⟩
      have HB := Lib.hid u.prop
      generalize u.val = w3 at *
      clear c0 c1 c2 d0 d1 d2 hL
      have c3 : w3.cell? ⟨g, 3, none⟩ = some (.slice ap m' ac) := (HB.out.cell (p := ⟨g, 3, none⟩) l0).trans (cell_of_row w g 3 _ _ _ HR.out)
      have d3 : w3.cell? ⟨g', 3, none⟩ = some (.slice ap' m' ac') := (HB.out.cell (p := ⟨g', 3, none⟩) l1).trans (cell_of_row w g' 3 _ _ _ HR'.out)
      have HA3 := Lib.hid (HA.out.below HB.out); have HA3' := Lib.hid (HA'.out.below HB.out)
      go_wp2
      go_loopw [5] (fun i wr => ∃ j : Nat, j ≤ m' ∧ i = .int .i64 j ∧ Below w3.heap.size w3 wr ∧ (∀ i, i < j → (all.map (·.age))[i]? = (all'.map (·.age))[i]?)) (fun i _ => m' - (intOf i).toNat)
      case atStart => exact ⟨0, Nat.zero_le _, rfl, Below.refl _ _, fun i h => absurd h (Nat.not_lt_zero _)⟩
      case round =>
        obtain ⟨j, hj, rfl, hbw, heq⟩ := hrel
        have HBW := Lib.hid hbw; have HE := Lib.hid heq
        have c3 : wr.cell? ⟨g, 3, none⟩ = some (.slice ap m' ac) := (hbw.cell (p := ⟨g, 3, none⟩) (Nat.lt_of_lt_of_le l0 HB.out.size)).trans c3
        have d3 : wr.cell? ⟨g', 3, none⟩ = some (.slice ap' m' ac') := (hbw.cell (p := ⟨g', 3, none⟩) (Nat.lt_of_lt_of_le l1 HB.out.size)).trans d3
        clear heq
        by_cases hlt : j < m'
        · obtain ⟨x, hx⟩ : ∃ x, (all.map (·.age))[j]? = some x := ⟨_, List.getElem?_eq_getElem (by rw [List.length_map, HM.out]; exact hlt)⟩
          obtain ⟨y, hy⟩ : ∃ y, (all'.map (·.age))[j]? = some y := ⟨_, List.getElem?_eq_getElem (by rw [List.length_map, HM'.out]; exact hlt)⟩
          have HX := Lib.hid hx; have HY := Lib.hid hy
          obtain ⟨b, o, rfl, hb, hr⟩ := (HA3.out.below hbw).at hx
          obtain ⟨b', o', rfl, hb', hr'⟩ := (HA3'.out.below hbw).at hy
          have e1 : wr.cell? ⟨b, o + j, none⟩ = some (.int .i64 x) := by have := hr 0 _ rfl; simpa using this
          have e2 : wr.cell? ⟨b', o' + j, none⟩ = some (.int .i64 y) := by have := hr' 0 _ rfl; simpa using this
          clear hx hy hr hr' hbw
          by_cases hxy : x = y
          · have HXY := Lib.hid hxy
            have hd : (x == y) = true := by simpa using hxy
            clear hxy
            go_wp2_with fail
            go_region
            go_wp2
            go_roundw
            case rel => exact ⟨j + 1, by omega, by go_num, HBW.out.drew, fun i hi => by
              by_cases hij : i = j
              · subst hij; rw [HX.out, HY.out, HXY.out]
              · exact HE.out i (by omega)⟩
            case measure => simp [intOf]; omega
          · have HXY := Lib.hid hxy
            have hd : (x == y) = false := by simpa using hxy
            have HQ : Hid (bv = false) := Lib.hid (by
              cases hb : bv
              · rfl
              · have h1 := HX.out
                rw [(HBV.out.1 hb).2, HY.out] at h1
                injection h1 with h1
                exact absurd h1.symm HXY.out)
            clear hxy
            go_wp2_with fail
            go_region
            go_wp2
            go_ret
            exact ⟨ret_bool HQ.out.symm, HB.out.trans (HBW.out.drew.mono HB.out.size)⟩
        · obtain rfl : j = m' := by omega
          have HQ : Hid (bv = true) := Lib.hid (HBV.out.2 ⟨by first | rfl | trivial, hd_ext HLL.out (List.ext_getElem? fun i => by
            rcases Nat.lt_or_ge i j with h | h
            · exact HE.out i h
            · rw [List.getElem?_eq_none (by rw [List.length_map, HM.out]; exact h), List.getElem?_eq_none (by rw [List.length_map, HM'.out]; exact h)])⟩)
          go_wp2
          go_ret
          exact ⟨ret_bool HQ.out.symm, HB.out.trans (HBW.out.mono HB.out.size)⟩
  · have HQ : Hid (bv = false) := Lib.hid (by cases hb : bv; rfl; exact absurd (HBV.out.1 hb).1 (by simp))
    go_enter Try.func23, Try.ntmps23
    go_wp2_with fail
    refine wp_region_later (by kernel_rfl) (by kernel_rfl) ?_
    repeat (go_big_quiet_step (first | (go_at_call 26; with_reducible exact later_call (HEQ.out _))))
    refine wpQuiet_nil ?_
    rintro w2 ⟨u, rfl⟩
    have HB := Lib.hid u.prop
    generalize u.val = w3 at *
    clear c0 c1 c2 d0 d1 d2 hL
    go_wp2
    go_ret
    exact ⟨ret_bool HQ.out.symm, HB.out⟩
  · have HQ : Hid (bv = false) := Lib.hid (by cases hb : bv; rfl; exact absurd (HBV.out.1 hb).1 (by simp))
    go_enter Try.func23, Try.ntmps23
    go_wp2_with fail
    refine wp_region_later (by kernel_rfl) (by kernel_rfl) ?_
    repeat (go_big_quiet_step (first | (go_at_call 26; with_reducible exact later_call (HEQ.out _))))
    refine wpQuiet_nil ?_
    rintro w2 ⟨u, rfl⟩
    have HB := Lib.hid u.prop
    generalize u.val = w3 at *
    clear c0 c1 c2 d0 d1 d2 hL
    go_wp2
    go_ret
    exact ⟨ret_bool HQ.out.symm, HB.out⟩
  · cases qe
    · have HQ : Hid (bv = false) := Lib.hid (by cases hb : bv; rfl; exact absurd (HQE.out.2 (by rw [(HBV.out.1 hb).2])) (by simp))
      go_enter Try.func23, Try.ntmps23
      go_wp2_with fail
      refine wp_region_later (by kernel_rfl) (by kernel_rfl) ?_
      repeat (go_big_quiet_step (first | (go_at_call 26; with_reducible exact later_call (HEQ.out _))))
      refine wpQuiet_nil ?_
      rintro w2 ⟨u, rfl⟩
      have HB := Lib.hid u.prop
      generalize u.val = w3 at *
      clear c0 c1 c2 d0 d1 d2 hL
      go_wp2
      go_ret
      exact ⟨ret_bool HQ.out.symm, HB.out⟩
    · have HLL : Hid (all.map (·.l) = all'.map (·.l)) := Lib.hid (HQE.out.1 rfl)
      have HMM : m' = m := by have h1 := congrArg List.length HLL.out; rw [List.length_map, List.length_map, HM.out, HM'.out] at h1; exact h1.symm
      subst HMM
      go_enter Try.func23, Try.ntmps23
      go_wp2_with fail
      refine wp_region_later (by kernel_rfl) (by kernel_rfl) ?_
      repeat (go_big_quiet_step (first | (go_at_call 26; with_reducible exact later_call (HEQ.out _))))
      refine wpQuiet_nil ?_
      rintro w2 ⟨u, rfl⟩
      have HB := Lib.hid u.prop
      generalize u.val = w3 at *
      clear c0 c1 c2 d0 d1 d2 hL
      have c3 : w3.cell? ⟨g, 3, none⟩ = some (.slice ap m' ac) := (HB.out.cell (p := ⟨g, 3, none⟩) l0).trans (cell_of_row w g 3 _ _ _ HR.out)
      have d3 : w3.cell? ⟨g', 3, none⟩ = some (.slice ap' m' ac') := (HB.out.cell (p := ⟨g', 3, none⟩) l1).trans (cell_of_row w g' 3 _ _ _ HR'.out)
      have HA3 := Lib.hid (HA.out.below HB.out); have HA3' := Lib.hid (HA'.out.below HB.out)
      go_wp2
      go_loopw [5] (fun i wr => ∃ j : Nat, j ≤ m' ∧ i = .int .i64 j ∧ Below w3.heap.size w3 wr ∧ (∀ i, i < j → (all.map (·.age))[i]? = (all'.map (·.age))[i]?)) (fun i _ => m' - (intOf i).toNat)
      case atStart => exact ⟨0, Nat.zero_le _, rfl, Below.refl _ _, fun i h => absurd h (Nat.not_lt_zero _)⟩
      case round =>
        obtain ⟨j, hj, rfl, hbw, heq⟩ := hrel
        have HBW := Lib.hid hbw; have HE := Lib.hid heq
        have c3 : wr.cell? ⟨g, 3, none⟩ = some (.slice ap m' ac) := (hbw.cell (p := ⟨g, 3, none⟩) (Nat.lt_of_lt_of_le l0 HB.out.size)).trans c3
        have d3 : wr.cell? ⟨g', 3, none⟩ = some (.slice ap' m' ac') := (hbw.cell (p := ⟨g', 3, none⟩) (Nat.lt_of_lt_of_le l1 HB.out.size)).trans d3
        clear heq
        by_cases hlt : j < m'
        · obtain ⟨x, hx⟩ : ∃ x, (all.map (·.age))[j]? = some x := ⟨_, List.getElem?_eq_getElem (by rw [List.length_map, HM.out]; exact hlt)⟩
          obtain ⟨y, hy⟩ : ∃ y, (all'.map (·.age))[j]? = some y := ⟨_, List.getElem?_eq_getElem (by rw [List.length_map, HM'.out]; exact hlt)⟩
          have HX := Lib.hid hx; have HY := Lib.hid hy
          obtain ⟨b, o, rfl, hb, hr⟩ := (HA3.out.below hbw).at hx
          obtain ⟨b', o', rfl, hb', hr'⟩ := (HA3'.out.below hbw).at hy
          have e1 : wr.cell? ⟨b, o + j, none⟩ = some (.int .i64 x) := by have := hr 0 _ rfl; simpa using this
          have e2 : wr.cell? ⟨b', o' + j, none⟩ = some (.int .i64 y) := by have := hr' 0 _ rfl; simpa using this
          clear hx hy hr hr' hbw
          by_cases hxy : x = y
          · have HXY := Lib.hid hxy
            have hd : (x == y) = true := by simpa using hxy
            clear hxy
            go_wp2_with fail
            go_region
            go_wp2
            go_roundw
            case rel => exact ⟨j + 1, by omega, by go_num, HBW.out.drew, fun i hi => by
              by_cases hij : i = j
              · subst hij; rw [HX.out, HY.out, HXY.out]
              · exact HE.out i (by omega)⟩
            case measure => simp [intOf]; omega
          · have HXY := Lib.hid hxy
            have hd : (x == y) = false := by simpa using hxy
            have HQ : Hid (bv = false) := Lib.hid (by
              cases hb : bv
              · rfl
              · have h1 := HX.out
                rw [(HBV.out.1 hb).2, HY.out] at h1
                injection h1 with h1
                exact absurd h1.symm HXY.out)
            clear hxy
            go_wp2_with fail
            go_region
            go_wp2
            go_ret
            exact ⟨ret_bool HQ.out.symm, HB.out.trans (HBW.out.drew.mono HB.out.size)⟩
        · obtain rfl : j = m' := by omega
          have HQ : Hid (bv = true) := Lib.hid (HBV.out.2 ⟨by first | rfl | trivial, hd_ext HLL.out (List.ext_getElem? fun i => by
            rcases Nat.lt_or_ge i j with h | h
            · exact HE.out i h
            · rw [List.getElem?_eq_none (by rw [List.length_map, HM.out]; exact h), List.getElem?_eq_none (by rw [List.length_map, HM'.out]; exact h)])⟩)
          go_wp2
          go_ret
          exact ⟨ret_bool HQ.out.symm, HB.out.trans (HBW.out.mono HB.out.size)⟩
end Go.Proofs.Ytihilifpadpkbaa
