/- Contracts of the report reference: Alike, Fine, those, Make, Same. Contracts of the report reference: Make, Same. Contracts: both Makes, of the one sorted list of the rows. -/
import Derived.Test.YtellhmbebimenaaDoorRt26
import Derived.Test.YtellhmbebimenaaDoorRt28
import Derived.Test.YtellhmbebimenaaDoorRt27

section
set_option linter.unusedVariables false
set_option linter.unusedSimpArgs false
namespace Go.Proofs.YtellhmbebimenaaDoor
open Go.RowKit

theorem rAlike_any (x y : Pst) (w : World) : Calls Tryd.prog 165 #[.agg #[.int .i64 x.d, .int .u64 x.t, .int .i64 x.s, .int .i64 x.k, .int .i64 x.a0, .int .i64 x.a1, .int .i64 x.a2, .int .i64 x.a3, .int .i64 x.a4, .int .i64 x.a5], .agg #[.int .i64 y.d, .int .u64 y.t, .int .i64 y.s, .int .i64 y.k, .int .i64 y.a0, .int .i64 y.a1, .int .i64 y.a2, .int .i64 y.a3, .int .i64 y.a4, .int .i64 y.a5]] w fun e w' => e = .returned (.bool (Rep.alike x y)) ∧ Below w.heap.size w w' := by
  have H : Hid (Rep.alike x y = (decide (x.t = y.t) && decide (x.s = y.s))) := Lib.hid rfl
  go_enter Tryd.func165, Tryd.ntmps165
  by_cases h0 : x.t = y.t
  · by_cases h1 : x.s = y.s <;> (go_wp2; go_ret; exact ⟨ret_bool (by rw [H.out]; simp [h0, h1]), ((Below.refl w.heap.size w).alloc (Nat.le_refl _) _).alloc (by simp) _⟩)
  · go_wp2; go_ret; exact ⟨ret_bool (by rw [H.out]; simp [h0]), ((Below.refl w.heap.size w).alloc (Nat.le_refl _) _).alloc (by simp) _⟩

set_option maxRecDepth 4000 in
set_option maxHeartbeats 2000000 in
theorem rFine_any (l : List Pst) (bv : Bool) (hbv : bv = true ↔ Rep.FineP l) (p : Option Addr) (n cap : Nat) (w : World) (hs : PS w (.slice p n cap) l) :
    Calls Tryd.prog 135 #[.slice p n cap] w fun e w' => e = .returned (.bool bv) ∧ Below w.heap.size w w' := by
  have HPS := Lib.hid hs; have HBV := Lib.hid hbv; have HWF := Lib.hid (ps_wf hs); have HN := Lib.hid (ps_len hs).1
  have hn1 := (ps_len hs).2.1
  have hn2 := (ps_len hs).2.2
  clear hs hbv
  go_enter Tryd.func135, Tryd.ntmps135
  go_wp2
  go_loopw [3] (fun i wr => ∃ k : Nat, k ≤ n ∧ i = .int .i64 k ∧ Below w.heap.size w wr ∧ (∀ z ∈ l.take k, z.may = true) ∧ ∀ (i j : Nat) (x y : Pst), j < i → i < k → l[i]? = some x → l[j]? = some y → Rep.alike x y = false) (fun i _ => n - (intOf i).toNat)
  case atStart => exact ⟨0, Nat.zero_le _, rfl, Below.refl _ _, fun z hz => absurd hz (by simp), fun i j x y hi hk => absurd hk (by omega)⟩
  case round =>
    obtain ⟨k, hk, rfl, hbw, hmay, hno⟩ := hrel
    have HMM := Lib.hid hmay; have HNO := Lib.hid hno; have HBW := Lib.hid hbw
    clear hmay hno
    by_cases hlt : k < n
    · obtain ⟨x, hx⟩ : ∃ x, l[k]? = some x := ⟨_, List.getElem?_eq_getElem (by have := HN.out; omega)⟩
      have HX := Lib.hid hx
      have HU := Lib.hid (u64_bd (HWF.out x (List.mem_of_getElem? hx)).2.1)
      obtain ⟨q, hq⟩ : ∃ q, x.may = q := ⟨_, rfl⟩
      have HQ := Lib.hid hq
      have HM : Hid (∀ W, Calls Tryd.prog 24 #[.agg #[.int .i64 x.d, .int .u64 x.t, .int .i64 x.s, .int .i64 x.k, .int .i64 x.a0, .int .i64 x.a1, .int .i64 x.a2, .int .i64 x.a3, .int .i64 x.a4, .int .i64 x.a5]] W fun e w' => e = .returned (.bool q) ∧ Below W.heap.size W w') := Lib.hid (fun W => by
        have := rMay_any x.d x.t x.s x.k x.a0 x.a1 x.a2 x.a3 x.a4 x.a5 HU.out.1 HU.out.2 W
        rw [show Post.may x.d x.t x.s x.k [x.a0, x.a1, x.a2, x.a3, x.a4, x.a5] = q from hq] at this
        exact this)
      clear hx hq hbw
      go_wp2
      go_loopw [4] (fun i wq => ∃ j : Nat, j ≤ k ∧ i = .int .i64 j ∧ Below w.heap.size w wq ∧ ∀ (j' : Nat) (y : Pst), j' < j → l[j']? = some y → Rep.alike x y = false) (fun i _ => k - (intOf i).toNat)
      case atStart => exact ⟨0, Nat.zero_le _, rfl, HBW.out, fun j y hj => absurd hj (by omega)⟩
      case round =>
        obtain ⟨j, hj, rfl, hbq, hnj⟩ := hrel
        have HBQ := Lib.hid hbq; have HNJ := Lib.hid hnj
        clear hnj
        obtain ⟨b, o, rfl, hbl, hat⟩ := ps_at (HPS.out.below hbq) HX.out
        unfold PAt at hat
        obtain ⟨c0, c1, c2, c3, c4, c5, c6, c7, c8, c9⟩ := hat
        by_cases hjk : j < k
        · obtain ⟨y, hy⟩ : ∃ y, l[j]? = some y := ⟨_, List.getElem?_eq_getElem (by have := HN.out; omega)⟩
          have HY := Lib.hid hy
          obtain ⟨b2, o2, e2, hb2, hat⟩ := ps_at (HPS.out.below hbq) hy
          injection e2 with e2
          injection e2 with e2 e3
          subst e2; subst e3
          unfold PAt at hat
          obtain ⟨d0, d1, d2, d3, d4, d5, d6, d7, d8, d9⟩ := hat
          obtain ⟨q2, hq2⟩ : ∃ q2, Rep.alike x y = q2 := ⟨_, rfl⟩
          have HQ2 := Lib.hid hq2
          have HAL : Hid (∀ W, Calls Tryd.prog 165 #[.agg #[.int .i64 x.d, .int .u64 x.t, .int .i64 x.s, .int .i64 x.k, .int .i64 x.a0, .int .i64 x.a1, .int .i64 x.a2, .int .i64 x.a3, .int .i64 x.a4, .int .i64 x.a5], .agg #[.int .i64 y.d, .int .u64 y.t, .int .i64 y.s, .int .i64 y.k, .int .i64 y.a0, .int .i64 y.a1, .int .i64 y.a2, .int .i64 y.a3, .int .i64 y.a4, .int .i64 y.a5]] W fun e w' => e = .returned (.bool q2) ∧ Below W.heap.size W w') := Lib.hid (fun W => by
            have := rAlike_any x y W
            rw [hq2] at this
            exact this)
          have hjn : (j : Int) < (n : Int) := by omega
          have hL := @Later.cell
          clear hy hq2 hbq
          cases q2
          all_goals
            go_wp2
            refine wp_region_later (by kernel_rfl) (by kernel_rfl) ?_
            repeat (go_big_quiet_step (first | (go_at_call 165; with_reducible exact later_call (HAL.out _))))
            refine wpQuiet_nil ?_
            rintro w2 ⟨u, rfl⟩
            go_wp2
          · go_roundw
            case rel =>
              refine ⟨j + 1, by omega, by go_num, HBQ.out.trans (u.prop.mono HBQ.out.size), fun j' y' h1 h2 => ?_⟩
              rcases (by omega : j' < j ∨ j' = j) with h | h
              · exact HNJ.out j' y' h h2
              · subst h
                rw [HY.out] at h2
                injection h2 with h2
                rw [← h2]; exact HQ2.out
            case measure => simp [intOf]; omega
          · go_ret
            refine ⟨ret_bool ?_, HBQ.out.trans (u.prop.mono HBQ.out.size)⟩
            cases hbv : bv
            · rfl
            · have := (HBV.out.1 hbv).2 k j x y hjk HX.out HY.out
              rw [HQ2.out] at this
              cases this
        · obtain rfl : j = k := by omega
          clear hbq
          go_wp2_with fail
          refine (HM.out _).mono ?_
          rintro e w3 ⟨rfl, hb3⟩
          have HB3 := Lib.hid (HBQ.out.trans (hb3.mono HBQ.out.size))
          clear hb3 c0 c1 c2 c3 c4 c5 c6 c7 c8 c9
          cases q
          · go_wp2
            go_ret
            refine ⟨ret_bool ?_, HB3.out⟩
            cases hbv : bv
            · rfl
            · have := (HBV.out.1 hbv).1 x (List.mem_of_getElem? HX.out)
              rw [HQ.out] at this
              cases this
          · go_wp2
            go_roundw
            case rel =>
              refine ⟨j + 1, by omega, by go_num, HB3.out, fun z hz => ?_, fun i j' x' y' h1 h2 h3 h4 => ?_⟩
              · rw [List.take_add_one, HX.out] at hz
                rcases List.mem_append.1 hz with hz | hz
                · exact HMM.out z hz
                · have : z = x := by simpa using hz
                  rw [this]; exact HQ.out
              · rcases (by omega : i < j ∨ i = j) with h | h
                · exact HNO.out i j' x' y' h1 h h3 h4
                · subst h
                  rw [HX.out] at h3
                  injection h3 with h3
                  rw [← h3]
                  exact HNJ.out j' y' h1 h4
            case measure => simp [intOf]; omega
    · obtain rfl : k = n := by omega
      have HF : Hid (bv = true) := Lib.hid (HBV.out.2 ⟨fun z hz => HMM.out z (by rw [List.take_of_length_le (by have := HN.out; omega)]; exact hz), fun i j x y h1 h2 h3 => HNO.out i j x y h1 (by have := (List.getElem?_eq_some_iff.1 h2).1; have := HN.out; omega) h2 h3⟩)
      go_wp2
      go_ret
      exact ⟨ret_bool HF.out.symm, HBW.out⟩

set_option maxRecDepth 4000 in
set_option maxHeartbeats 1000000 in
theorem rThose_any (l : List Pst) (a b : Int) (p : Option Addr) (n cap : Nat) (hnb : n ≤ 1000000) (w : World) (hs : PS w (.slice p n cap) l) :
    Calls Tryd.prog 136 #[.int .i64 a, .int .i64 b, .slice p n cap] w
      fun e w' => ∃ v' s', e = .returned v' ∧ Srt.Mix keyP (l.filter (Rep.within a b)) s' ∧ Srt.Up keyP s' ∧ w'.ownsRow w.heap.size 49 10 v' s'.length (encL Pst.cells s') ∧ Below w.heap.size w w' := by
  have HPS := Lib.hid hs; have HN := Lib.hid (ps_len hs).1; have HWF := Lib.hid (ps_wf hs)
  have hn1 := (ps_len hs).2.1
  have hn2 := (ps_len hs).2.2
  clear hs
  have HQW : Hid (∀ x, Rep.within a b x = (decide (a ≤ x.d) && decide (x.d ≤ b))) := Lib.hid (fun x => rfl)
  generalize hq : Rep.within a b = q at *
  go_enter Tryd.func136, Tryd.ntmps136
  go_wp2
  go_loopw [8, 7] (fun i v wr => ∃ k : Nat, k ≤ n ∧ i = .int .i64 k ∧ wr.ownsRow w.heap.size 49 10 v ((l.take k).filter q).length (encL Pst.cells ((l.take k).filter q)) ∧ Below w.heap.size w wr) (fun i _ _ => n - (intOf i).toNat)
  case atStart => exact ⟨0, Nat.zero_le _, rfl, World.ownsRow_nil _ _ _ _, Below.refl _ _⟩
  case round =>
    obtain ⟨k, hk, rfl, hown, hbw⟩ := hrel
    have HO := Lib.hid hown; have HBW := Lib.hid hbw
    have HLE : Hid (((l.take k).filter q).length ≤ n) := Lib.hid (Nat.le_trans (List.length_filter_le _ _) (by rw [List.length_take]; omega))
    clear hown
    by_cases hlt : k < n
    · obtain ⟨x, hx⟩ : ∃ x, l[k]? = some x := ⟨_, List.getElem?_eq_getElem (by have := HN.out; omega)⟩
      obtain ⟨bb, o, rfl, hbl, hat⟩ := ps_at (HPS.out.below hbw) hx
      have HT : Hid ((l.take (k + 1)).filter q = (l.take k).filter q ++ (if q x then [x] else [])) := Lib.hid (by
        rw [List.take_add_one, hx, List.filter_append]
        simp [List.filter_cons])
      unfold PAt at hat
      obtain ⟨c0, c1, c2, c3, c4, c5, c6, c7, c8, c9⟩ := hat
      have hqx := HQW.out x
      clear hx hbw
      by_cases h0 : a ≤ x.d
      · by_cases h1 : x.d ≤ b
        · have hy : q x = true := by rw [hqx]; simp [h0, h1]
          rw [hy] at HT
          have HT2 : Hid ((l.take (k + 1)).filter q = (l.take k).filter q ++ [x]) := Lib.hid (by rw [HT.out]; simp)
          clear hy hqx HT
          go_wp2_with (at_builtin; refine wpList_append_recs elemP rfl _ _ rfl w.heap.size _ _ _ rfl (recs_below HO.out ((Below.refl _ _).alloc (Nat.le_refl _) _)) _ [x] rfl (row_one (x := x) (new_rowW _ _ _ rfl) rfl Pst.cells_length (by decide)) (by have := HLE.out; simp <;> omega) (by have := HBW.out.size; simp <;> omega) ?_; intro v2 w2 hown2 hg2 hn2 hat2)
          have HO2 : Hid (w2.ownsRow w.heap.size 49 10 v2 ((l.take (k + 1)).filter q).length (encL Pst.cells ((l.take (k + 1)).filter q))) := Lib.hid (by
            rw [HT2.out, List.length_append]
            exact hown2)
          have HB2 := Lib.hid ((HBW.out.alloc HBW.out.size _).grown hg2 (by have := HBW.out.size; simp <;> omega) (fun b hb => (recs_base HO.out hb).1))
          clear hown2 hg2 hn2 hat2
          go_wp2
          go_roundw
          case rel => exact ⟨k + 1, by omega, by go_num, HO2.out, HB2.out⟩
          case measure => simp [intOf]; omega
        · have hy : q x = false := by rw [hqx]; simp [h1]
          rw [hy] at HT
          have HT2 : Hid ((l.take (k + 1)).filter q = (l.take k).filter q) := Lib.hid (by rw [HT.out]; simp)
          clear hy hqx HT
          go_wp2
          go_roundw
          case rel => exact ⟨k + 1, by omega, by go_num, by rw [HT2.out]; exact HO.out, HBW.out⟩
          case measure => simp [intOf]; omega
      · have hy : q x = false := by rw [hqx]; simp [h0]
        rw [hy] at HT
        have HT2 : Hid ((l.take (k + 1)).filter q = (l.take k).filter q) := Lib.hid (by rw [HT.out]; simp)
        clear hy hqx HT
        go_wp2
        go_roundw
        case rel => exact ⟨k + 1, by omega, by go_num, by rw [HT2.out]; exact HO.out, HBW.out⟩
        case measure => simp [intOf]; omega
    · obtain rfl : k = n := by omega
      have hown := HO.out
      rw [List.take_of_length_le (by have := HN.out; omega)] at hown
      have hls := LS.of_own hown Pst.cells_length (by decide)
      obtain ⟨p1, c1, hv⟩ := hls.shape
      subst hv
      have HS : Hid (∀ W, LS Pst.cells 10 W (.slice p1 (l.filter q).length c1) (l.filter q) → _) := Lib.hid (fun W h => rSort_any (l.filter q) (fun z hz => HWF.out z (List.mem_filter.1 hz).1) p1 _ c1 (Nat.le_trans (List.length_filter_le _ _) (by have := HN.out; omega)) W h)
      have HLS := Lib.hid hls
      clear hown hbw hls
      generalize (l.filter q).length = m at *
      go_wp2_with fail
      refine (HS.out _ HLS.out).mono ?_
      rintro e w2 ⟨v2, s2, rfl, hm, hu, hown, hb2⟩
      have HM := Lib.hid hm; have HU := Lib.hid hu; have HB2 := Lib.hid (HBW.out.trans (hb2.mono HBW.out.size))
      have HO2 : Hid (w2.ownsRow w.heap.size 49 10 v2 s2.length (encL Pst.cells s2)) := Lib.hid (own_lower hown HBW.out.size)
      clear hm hu hown hb2
      go_wp2
      go_ret
      exact ⟨_, s2, rfl, HM.out, HU.out, HO2.out, HB2.out⟩
end Go.Proofs.YtellhmbebimenaaDoor
end

section
set_option linter.unusedVariables false
set_option linter.unusedSimpArgs false
namespace Go.Proofs.YtellhmbebimenaaDoor
open Go.RowKit

theorem own_two {w3 w4 W7 W : World} {base b0 e n m g : Nat} {v : Value} {xs : List Value} (h : w3.ownsRow base e n v m xs) (hb : Below w3.heap.size w3 w4) (h7 : Only w3.heap.size w4 W7) (ho : Only g W7 W) (hg : g < base) (h0 : b0 ≤ base) : W.ownsRow b0 e n v m xs := by
  refine own_lower (recs_keep h fun b hb' hlt => ?_) h0
  have := recs_base h hb'
  have h1 := hb.size
  have h2 := h7.size
  rw [ho.block b (by omega) (by omega), h7.block b (by omega) (by omega), hb.block b hlt]
theorem rMakeR_bad (from0 to0 : Int) (l : List Pst) (p : Option Addr) (n cap : Nat) (hbad : ¬ (Rep.days from0 to0 = true ∧ Rep.FineP l)) (w : World) (hs : PS w (.slice p n cap) l) :
    Calls Tryd.prog 86 #[.int .i64 from0, .int .i64 to0, .slice p n cap] w fun e w' => e = .returned (.tuple #[.agg #[.int .i64 0, .int .i64 0, .slice none 0 0, .int .i64 0, .int .i64 0, .int .i64 0, .int .i64 0, .int .i64 0, .int .i64 0, .int .i64 0], .int .i64 2]) ∧ Below w.heap.size w w' := by
  have HPS := Lib.hid hs
  clear hs
  by_cases hd : Rep.days from0 to0 = true
  · have HF : Hid (∀ W, PS W (.slice p n cap) l → _) := Lib.hid (fun W h => rFine_any l false (by
      constructor
      · intro h; cases h
      · intro h; exact absurd ⟨hd, h⟩ hbad) p n cap W h)
    have HD : Hid (∀ W, Calls Tryd.prog 134 #[.int .i64 from0, .int .i64 to0] W fun e w' => e = .returned (.bool true) ∧ W = w') := Lib.hid (fun W => by have := rDays_any from0 to0 W; rwa [hd] at this)
    clear hbad hd
    go_enter Tryd.func86, Tryd.ntmps86
    go_wp2_with fail
    refine (HD.out _).mono ?_
    rintro e w2 ⟨rfl, rfl⟩
    go_wp2_with fail
    refine (HF.out _ (HPS.out.below ((Below.refl _ _).alloc (Nat.le_refl _) _))).mono ?_
    rintro e w2 ⟨rfl, hb2⟩
    have hr2 := (hb2.block w.heap.size (by simp)).trans (new_row w (.cells #[.int .i64 0, .int .i64 0, .slice none 0 0, .int .i64 0, .int .i64 0, .int .i64 0, .int .i64 0, .int .i64 0, .int .i64 0, .int .i64 0] 61 (0, 0)) _ rfl)
    have HB2 := Lib.hid (((Below.refl w.heap.size w).alloc (Nat.le_refl _) _).trans (hb2.mono (by simp)))
    have hz := block_lt hr2
    have hc2 := fun j => cell_of_row w2 w.heap.size j _ _ _ hr2
    have hf2 := fun j => frozen_of_row w2 w.heap.size j _ _ hr2
    have HR2 := Lib.hid hr2
    clear hr2 hb2
    go_wp2
    have hrow := ten_row HR2.out (.int .i64 0) (.int .i64 0) (.slice none 0 0) (.int .i64 0) (.int .i64 0) (.int .i64 0) (.int .i64 0) (.int .i64 0) (.int .i64 0) (.int .i64 0)
    refine bodyPost_ret (v := .tuple #[.agg #[.int .i64 0, .int .i64 0, .slice none 0 0, .int .i64 0, .int .i64 0, .int .i64 0, .int .i64 0, .int .i64 0, .int .i64 0, .int .i64 0], .int .i64 2]) (by simp [results, Tryd.results86, go_sem, fun i => cell_of_row _ _ i _ _ _ hrow]) rfl ⟨rfl, ?_⟩
    exact ten_below HB2.out (Nat.le_refl _) _ _ _ _ _ _ _ _ _ _
  · have HD : Hid (∀ W, Calls Tryd.prog 134 #[.int .i64 from0, .int .i64 to0] W fun e w' => e = .returned (.bool false) ∧ W = w') := Lib.hid (fun W => by have := rDays_any from0 to0 W; rw [show Rep.days from0 to0 = false by simpa using hd] at this; exact this)
    clear hbad hd
    go_enter Tryd.func86, Tryd.ntmps86
    go_wp2_with fail
    refine (HD.out _).mono ?_
    rintro e w2 ⟨rfl, rfl⟩
    have HR2 := Lib.hid (new_row w (.cells #[.int .i64 0, .int .i64 0, .slice none 0 0, .int .i64 0, .int .i64 0, .int .i64 0, .int .i64 0, .int .i64 0, .int .i64 0, .int .i64 0] 61 (0, 0)) _ rfl)
    go_wp2
    first
      | (go_ret; exact ⟨rfl, (Below.refl _ _).alloc (Nat.le_refl _) _⟩)
      | (refine bodyPost_ret (v := .tuple #[.agg #[.int .i64 0, .int .i64 0, .slice none 0 0, .int .i64 0, .int .i64 0, .int .i64 0, .int .i64 0, .int .i64 0, .int .i64 0, .int .i64 0], .int .i64 2]) (by simp [results, Tryd.results86, go_sem]) rfl ⟨rfl, (Below.refl _ _).alloc (Nat.le_refl _) _⟩)

set_option maxRecDepth 4000 in
set_option maxHeartbeats 1000000 in
theorem rMakeR_ok (from0 to0 : Int) (l : List Pst) (p : Option Addr) (n cap : Nat) (hnb : n ≤ 1000000) (hd : Rep.days from0 to0 = true) (hfine : Rep.FineP l) (w : World) (hs : PS w (.slice p n cap) l) :
    Calls Tryd.prog 86 #[.int .i64 from0, .int .i64 to0, .slice p n cap] w fun e w' => ∃ (v : Value) (rows : List Pst) (ev m x0 x1 x2 x3 x4 x5 : Int), Post.sums rows = ⟨ev, m, [x0, x1, x2, x3, x4, x5]⟩ ∧
      Srt.Mix keyP (l.filter (Rep.within from0 to0)) rows ∧ Srt.Up keyP rows ∧ Mine Pst.cells 10 w' w.heap.size v rows ∧ Below w.heap.size w w' ∧ (ev = 0 ∧ e = .returned (.tuple #[.agg #[.int .i64 from0, .int .i64 to0, v, .int .i64 m, .int .i64 x0, .int .i64 x1, .int .i64 x2, .int .i64 x3, .int .i64 x4, .int .i64 x5], .int .i64 0]) ∨ ¬ ev = 0 ∧ e = .returned (.tuple #[.agg #[.int .i64 0, .int .i64 0, .slice none 0 0, .int .i64 0, .int .i64 0, .int .i64 0, .int .i64 0, .int .i64 0, .int .i64 0, .int .i64 0], .int .i64 ev])) := by
  have HPS := Lib.hid hs; have HWF := Lib.hid (ps_wf hs)
  have HT := Lib.hid (fun W h => rThose_any l from0 to0 p n cap hnb W h)
  have HF : Hid (∀ W, PS W (.slice p n cap) l → _) := Lib.hid (fun W h => rFine_any l true ⟨fun _ => hfine, fun _ => rfl⟩ p n cap W h)
  have HD : Hid (∀ W, Calls Tryd.prog 134 #[.int .i64 from0, .int .i64 to0] W fun e w' => e = .returned (.bool true) ∧ W = w') := Lib.hid (fun W => by have := rDays_any from0 to0 W; rwa [hd] at this)
  clear hs hd hfine
  go_enter Tryd.func86, Tryd.ntmps86
  go_wp2_with fail
  refine (HD.out _).mono ?_
  rintro e w2 ⟨rfl, rfl⟩
  go_wp2_with fail
  refine (HF.out _ (HPS.out.below ((Below.refl _ _).alloc (Nat.le_refl _) _))).mono ?_
  rintro e w2 ⟨rfl, hb2⟩
  have hr2 := (hb2.block w.heap.size (by simp)).trans (new_row w (.cells #[.int .i64 0, .int .i64 0, .slice none 0 0, .int .i64 0, .int .i64 0, .int .i64 0, .int .i64 0, .int .i64 0, .int .i64 0, .int .i64 0] 61 (0, 0)) _ rfl)
  have HB2 := Lib.hid (((Below.refl w.heap.size w).alloc (Nat.le_refl _) _).trans (hb2.mono (by simp)))
  have hz := block_lt hr2
  have HR2 := Lib.hid hr2
  clear hr2 hb2
  go_wp2_with fail
  refine (HT.out _ (HPS.out.below HB2.out)).mono ?_
  rintro e w3 ⟨v, rows, rfl, hm, hu, hown, hb3⟩
  have HM := Lib.hid hm; have HU := Lib.hid hu; have HOW := Lib.hid hown
  have HW3 : Hid (WF rows) := Lib.hid (fun z hz => HWF.out z (List.mem_filter.1 (hm.symm.mem hz)).1)
  have hr3 := (hb3.block w.heap.size hz).trans HR2.out
  have HB3 := Lib.hid (HB2.out.trans (hb3.mono HB2.out.size))
  have hz3 := block_lt hr3
  have hmine := Mine.of_own (own_lower hown HB2.out.size) Pst.cells_length (by decide)
  obtain ⟨p1, c1, hv⟩ := (hmine.ls Pst.cells_length (by decide)).shape
  subst hv
  have HMN := Lib.hid hmine
  have HR3 := Lib.hid hr3
  have HSUM := Lib.hid (Post.sums_fine rows)
  obtain ⟨x0, x1, x2, x3, x4, x5, hx⟩ := Post.six_of HSUM.out.1
  obtain ⟨m, hmm⟩ : ∃ m, (Post.sums rows).m = m := ⟨_, rfl⟩
  obtain ⟨ev, hev⟩ : ∃ m, (Post.sums rows).e = m := ⟨_, rfl⟩
  have HSM : Hid (Post.sums rows = ⟨ev, m, [x0, x1, x2, x3, x4, x5]⟩) := Lib.hid (by rw [← hx, ← hmm, ← hev])
  clear hx hmm hev HSUM hm hu hown hb3 hmine hr3
  have HS : Hid (∀ W, LS Pst.cells 10 W (.slice p1 rows.length c1) rows → _) := Lib.hid (fun W h => rSum_any rows p1 rows.length c1 rfl W (ps_of_ls h HW3.out) ev m x0 x1 x2 x3 x4 x5 HSM.out)
  have HLS := Lib.hid (HMN.out.ls Pst.cells_length (by decide))
  have hfin : ∀ W, Below w3.heap.size w3 W → Mine Pst.cells 10 W w.heap.size (.slice p1 rows.length c1) rows := fun W h => HMN.out.below h
  have HFIN := Lib.hid hfin
  clear hfin
  generalize hnn : rows.length = nn at *
  go_wp2_with fail
  refine (HS.out _ (HLS.out.alloc _)).mono ?_
  rintro e w4 ⟨rfl, hb4⟩
  have hr4 := (hb4.block w.heap.size (by simp; omega)).trans (row_alloc HR3.out _)
  have hr5 := (hb4.block w3.heap.size (by simp)).trans (new_row w3 _ _ rfl)
  have HB43 := Lib.hid (((Below.refl w3.heap.size w3).alloc (Nat.le_refl _) _).trans (hb4.mono (by simp)))
  have HB4 := Lib.hid (HB3.out.trans (HB43.out.mono HB3.out.size))
  have hz4 := block_lt hr4
  have hz5 := block_lt hr5
  have HR4 := Lib.hid hr4; have HR5 := Lib.hid hr5
  have hc4 := fun j => cell_of_row w4 w.heap.size j _ _ _ hr4
  have hf4 := fun j => frozen_of_row w4 w.heap.size j _ _ hr4
  have hc5 := fun j => cell_of_row w4 w3.heap.size j _ _ _ hr5
  have hf5 := fun j => frozen_of_row w4 w3.heap.size j _ _ hr5
  have hz33 : w.heap.size < w3.heap.size := hz3
  clear hr4 hr5 hb4
  by_cases he : ev = 0
  · subst he
    go_wp2
    have hO7 := (((((((Only.refl w3.heap.size w4).setCell 3 (.int .i64 m)).setCell 4 (.int .i64 x0)).setCell 5 (.int .i64 x1)).setCell 6 (.int .i64 x2)).setCell 7 (.int .i64 x3)).setCell 8 (.int .i64 x4)).setCell 9 (.int .i64 x5)
    have hr47 := (hO7.block w.heap.size hz4 (by omega)).trans HR4.out
    have hrow := row_alloc (ten_row hr47 (.int .i64 from0) (.int .i64 to0) (.slice p1 nn c1) (.int .i64 m) (.int .i64 x0) (.int .i64 x1) (.int .i64 x2) (.int .i64 x3) (.int .i64 x4) (.int .i64 x5)) (.cells #[.int .i64 m, .int .i64 x0, .int .i64 x1, .int .i64 x2, .int .i64 x3, .int .i64 x4, .int .i64 x5] 59 (0, 0))
    refine bodyPost_ret (v := .tuple #[.agg #[.int .i64 from0, .int .i64 to0, (.slice p1 nn c1), .int .i64 m, .int .i64 x0, .int .i64 x1, .int .i64 x2, .int .i64 x3, .int .i64 x4, .int .i64 x5], .int .i64 0]) (by simp [results, Tryd.results86, go_sem, fun i => cell_of_row _ _ i _ _ _ hrow]) rfl ⟨.slice p1 nn c1, rows, 0, m, x0, x1, x2, x3, x4, x5, HSM.out, HM.out, HU.out, ?_, ?_, .inl ⟨rfl, rfl⟩⟩
    · exact Mine.of_own (own_two HOW.out HB43.out hO7 ((ten_only (.refl _ _) _ _ _ _ _ _ _ _ _ _).alloc _) hz HB2.out.size) Pst.cells_length (by decide)
    · exact balloc (ten_below (Only.below HB4.out (Nat.le_of_lt hz33) (Nat.le_of_lt hz4) hO7) (Nat.le_refl _) _ _ _ _ _ _ _ _ _ _) _
  · go_wp2
    have hrow := row_alloc (ten_row HR4.out (.int .i64 0) (.int .i64 0) (.slice none 0 0) (.int .i64 0) (.int .i64 0) (.int .i64 0) (.int .i64 0) (.int .i64 0) (.int .i64 0) (.int .i64 0)) (.cells #[.int .i64 m, .int .i64 x0, .int .i64 x1, .int .i64 x2, .int .i64 x3, .int .i64 x4, .int .i64 x5] 59 (0, 0))
    refine bodyPost_ret (v := .tuple #[.agg #[.int .i64 0, .int .i64 0, .slice none 0 0, .int .i64 0, .int .i64 0, .int .i64 0, .int .i64 0, .int .i64 0, .int .i64 0, .int .i64 0], .int .i64 ev]) (by simp [results, Tryd.results86, go_sem, fun i => cell_of_row _ _ i _ _ _ hrow]) rfl ⟨.slice p1 nn c1, rows, ev, m, x0, x1, x2, x3, x4, x5, HSM.out, HM.out, HU.out, ?_, ?_, .inr ⟨he, rfl⟩⟩
    · exact Mine.of_own (own_only HOW.out HB43.out ((ten_only (.refl _ _) _ _ _ _ _ _ _ _ _ _).alloc _) hz HB2.out.size) Pst.cells_length (by decide)
    · exact balloc (ten_below HB4.out (Nat.le_refl _) _ _ _ _ _ _ _ _ _ _) _
end Go.Proofs.YtellhmbebimenaaDoor
end

section
set_option linter.unusedVariables false
set_option linter.unusedSimpArgs false
namespace Go.Proofs.YtellhmbebimenaaDoor
open Go.RowKit

namespace Srt
variable {α : Type}
def ins (key : α → Int) (a : α) : List α → List α
  | [] => [a]
  | b :: l => if key a ≤ key b then a :: b :: l else b :: ins key a l
theorem ins_mix (key : α → Int) (a : α) (l : List α) : Mix key (a :: l) (ins key a l) := by
  induction l with
  | nil => exact Mix.refl _
  | cons b l ih =>
    unfold ins
    split
    · exact Mix.refl _
    · rename_i h
      have h1 : Mix key ([a] ++ [b]) ([b] ++ [a]) := Mix.swap (by simp; omega)
      have h2 := h1.app (Mix.refl (key := key) l)
      have h3 := (Mix.refl (key := key) [b]).app ih
      exact Mix.trans (by simpa using h2) (by simpa using h3)
theorem ins_up {key : α → Int} (a : α) (l : List α) (hl : Up key l) : Up key (ins key a l) := by
  induction l with
  | nil => exact Up.one a
  | cons b l ih =>
    obtain ⟨h1, h2⟩ := List.pairwise_cons.1 hl
    unfold ins
    split
    · rename_i h
      refine List.pairwise_cons.2 ⟨fun x hx => ?_, hl⟩
      rcases List.mem_cons.1 hx with rfl | hx
      · exact h
      · have := h1 x hx; omega
    · rename_i h
      refine List.pairwise_cons.2 ⟨fun x hx => ?_, ih h2⟩
      rcases List.mem_cons.1 ((ins_mix key a l).symm.mem hx) with rfl | hx
      · omega
      · exact h1 x hx
def isort (key : α → Int) (l : List α) : List α := l.foldr (ins key) []
theorem isort_up (key : α → Int) (l : List α) : Up key (isort key l) := by
  induction l with
  | nil => exact Up.nil
  | cons a l ih => exact ins_up a _ ih
theorem isort_mix (key : α → Int) (l : List α) : Mix key l (isort key l) := by
  induction l with
  | nil => exact Mix.refl _
  | cons a l ih => exact Mix.trans (y := a :: isort key l) (by simpa using (Mix.refl (key := key) [a]).app ih) (ins_mix key a _)
end Srt

theorem make_fit (from0 to0 : Int) (l : List Pst) (p : Option Addr) (n cap : Nat) (hnb : n ≤ 1000000) (hd : Rep.days from0 to0 = true) (hfine : Rep.FineP l) (rows : List Pst) (hm : Srt.Mix keyP (l.filter (Rep.within from0 to0)) rows) (hu : Srt.Up keyP rows)
    (ev m x0 x1 x2 x3 x4 x5 : Int) (hsum : Post.sums rows = ⟨ev, m, [x0, x1, x2, x3, x4, x5]⟩) (w : World) (hs : PS w (.slice p n cap) l) :
    Calls Tryd.prog 80 #[.int .i64 from0, .int .i64 to0, .slice p n cap] w fun e w' => ∃ v : Value, Mine Pst.cells 10 w' w.heap.size v rows ∧ Below w.heap.size w w' ∧ (ev = 0 ∧ e = .returned (.tuple #[.agg #[.int .i64 from0, .int .i64 to0, v, .int .i64 m, .int .i64 x0, .int .i64 x1, .int .i64 x2, .int .i64 x3, .int .i64 x4, .int .i64 x5], .int .i64 0]) ∨ ¬ ev = 0 ∧ e = .returned (.tuple #[.agg #[.int .i64 0, .int .i64 0, .slice none 0 0, .int .i64 0, .int .i64 0, .int .i64 0, .int .i64 0, .int .i64 0, .int .i64 0, .int .i64 0], .int .i64 ev])) := by
  refine (make_ok from0 to0 l p n cap hnb hd hfine w hs).mono ?_
  rintro e w' ⟨v, rows', ev', m', y0, y1, y2, y3, y4, y5, h1, h2, h3, _, h4, h5, h6⟩
  obtain rfl : rows = rows' := hu.only _ _ h3 (hm.symm.trans h2)
  rw [hsum] at h1
  injection h1 with e1 e2 e3
  simp only [List.cons.injEq, and_true] at e3
  obtain ⟨e3, e4, e5, e6, e7, e8⟩ := e3
  subst e1 e2 e3 e4 e5 e6 e7 e8
  exact ⟨v, h4, h5, h6⟩
theorem rMakeR_fit (from0 to0 : Int) (l : List Pst) (p : Option Addr) (n cap : Nat) (hnb : n ≤ 1000000) (hd : Rep.days from0 to0 = true) (hfine : Rep.FineP l) (rows : List Pst) (hm : Srt.Mix keyP (l.filter (Rep.within from0 to0)) rows) (hu : Srt.Up keyP rows)
    (ev m x0 x1 x2 x3 x4 x5 : Int) (hsum : Post.sums rows = ⟨ev, m, [x0, x1, x2, x3, x4, x5]⟩) (w : World) (hs : PS w (.slice p n cap) l) :
    Calls Tryd.prog 86 #[.int .i64 from0, .int .i64 to0, .slice p n cap] w fun e w' => ∃ v : Value, Mine Pst.cells 10 w' w.heap.size v rows ∧ Below w.heap.size w w' ∧ (ev = 0 ∧ e = .returned (.tuple #[.agg #[.int .i64 from0, .int .i64 to0, v, .int .i64 m, .int .i64 x0, .int .i64 x1, .int .i64 x2, .int .i64 x3, .int .i64 x4, .int .i64 x5], .int .i64 0]) ∨ ¬ ev = 0 ∧ e = .returned (.tuple #[.agg #[.int .i64 0, .int .i64 0, .slice none 0 0, .int .i64 0, .int .i64 0, .int .i64 0, .int .i64 0, .int .i64 0, .int .i64 0, .int .i64 0], .int .i64 ev])) := by
  refine (rMakeR_ok from0 to0 l p n cap hnb hd hfine w hs).mono ?_
  rintro e w' ⟨v, rows', ev', m', y0, y1, y2, y3, y4, y5, h1, h2, h3, h4, h5, h6⟩
  obtain rfl : rows = rows' := hu.only _ _ h3 (hm.symm.trans h2)
  rw [hsum] at h1
  injection h1 with e1 e2 e3
  simp only [List.cons.injEq, and_true] at e3
  obtain ⟨e3, e4, e5, e6, e7, e8⟩ := e3
  subst e1 e2 e3 e4 e5 e6 e7 e8
  exact ⟨v, h4, h5, h6⟩
end Go.Proofs.YtellhmbebimenaaDoor
end
