/- Contracts of the report reference: Alike, Fine, those, Make, Same. -/
import Derived.Test.YtajpggnmhkpbkaaRfw32
import Derived.Test.YtajpggnmhkpbkaaRfw34

set_option linter.unusedVariables false
set_option linter.unusedSimpArgs false
namespace Go.Proofs.Ytajpggnmhkpbkaa
open Go.RowKit

theorem rAlike_any (x y : Pst) (w : World) : Calls Try.prog 33 #[.agg #[.int .i64 x.d, .int .u64 x.t, .int .i64 x.s, .int .i64 x.k, .int .i64 x.a0, .int .i64 x.a1, .int .i64 x.a2, .int .i64 x.a3, .int .i64 x.a4, .int .i64 x.a5], .agg #[.int .i64 y.d, .int .u64 y.t, .int .i64 y.s, .int .i64 y.k, .int .i64 y.a0, .int .i64 y.a1, .int .i64 y.a2, .int .i64 y.a3, .int .i64 y.a4, .int .i64 y.a5]] w fun e w' => e = .returned (.bool (Rep.alike x y)) ∧ Below w.heap.size w w' := by
  have H : Hid (Rep.alike x y = (decide (x.t = y.t) && decide (x.s = y.s))) := Lib.hid rfl
  go_enter Try.func33, Try.ntmps33
  by_cases h0 : x.t = y.t
  · by_cases h1 : x.s = y.s <;> (go_wp2; go_ret; exact ⟨ret_bool (by rw [H.out]; simp [h0, h1]), ((Below.refl w.heap.size w).alloc (Nat.le_refl _) _).alloc (by simp) _⟩)
  · go_wp2; go_ret; exact ⟨ret_bool (by rw [H.out]; simp [h0]), ((Below.refl w.heap.size w).alloc (Nat.le_refl _) _).alloc (by simp) _⟩

set_option maxRecDepth 4000 in
set_option maxHeartbeats 2000000 in
theorem rFine_any (l : List Pst) (bv : Bool) (hbv : bv = true ↔ Rep.FineP l) (p : Option Addr) (n cap : Nat) (w : World) (hs : PS w (.slice p n cap) l) :
    Calls Try.prog 14 #[.slice p n cap] w fun e w' => e = .returned (.bool bv) ∧ Below w.heap.size w w' := by
  have HPS := Lib.hid hs; have HBV := Lib.hid hbv; have HWF := Lib.hid (ps_wf hs); have HN := Lib.hid (ps_len hs).1
  have hn1 := (ps_len hs).2.1
  have hn2 := (ps_len hs).2.2
  clear hs hbv
  go_enter Try.func14, Try.ntmps14
  go_wp2
  go_loopw [3] (fun i wr => ∃ k : Nat, k ≤ n ∧ i = .int .i64 k ∧ Below w.heap.size w wr ∧ (∀ z ∈ l.take k, z.may = true) ∧ ∀ (i j : Nat) (x y : Pst), j < i → i < k → l[i]? = some x → l[j]? = some y → Rep.alike x y = false) (fun i _ => n - (intOf i).toNat)
  case atStart => exact ⟨0, Nat.zero_le _, rfl, Below.refl _ _, fun z hz => absurd hz (by simp), fun i j x y hi hk => absurd hk (by omega)⟩
  case round =>
    obtain ⟨k, hk, rfl, hbw, hmay, hno⟩ := hrel
    have HMM := Lib.hid hmay; have HNO := Lib.hid hno; have HBW := Lib.hid hbw
    clear hmay hno
    by_cases hlt : k < n
    · obtain ⟨x, hx⟩ : ∃ x, l[k]? = some x := ⟨_, List.getElem?_eq_getElem (by have := HN.out; omega)⟩
      have HX := Lib.hid hx
      have HU := Lib.hid (u64_bd (HWF.out x (List.mem_of_getElem? hx)).2.1)
      obtain ⟨q, hq⟩ : ∃ q, x.may = q := ⟨_, rfl⟩
      have HQ := Lib.hid hq
      have HM : Hid (∀ W, Calls Try.prog 34 #[.agg #[.int .i64 x.d, .int .u64 x.t, .int .i64 x.s, .int .i64 x.k, .int .i64 x.a0, .int .i64 x.a1, .int .i64 x.a2, .int .i64 x.a3, .int .i64 x.a4, .int .i64 x.a5]] W fun e w' => e = .returned (.bool q) ∧ Below W.heap.size W w') := Lib.hid (fun W => by
        have := rMay_any x.d x.t x.s x.k x.a0 x.a1 x.a2 x.a3 x.a4 x.a5 HU.out.1 HU.out.2 W
        rw [show Post.may x.d x.t x.s x.k [x.a0, x.a1, x.a2, x.a3, x.a4, x.a5] = q from hq] at this
        exact this)
      clear hx hq hbw
      go_wp2
      go_loopw [4] (fun i wq => ∃ j : Nat, j ≤ k ∧ i = .int .i64 j ∧ Below w.heap.size w wq ∧ ∀ (j' : Nat) (y : Pst), j' < j → l[j']? = some y → Rep.alike x y = false) (fun i _ => k - (intOf i).toNat)
      case atStart => exact ⟨0, Nat.zero_le _, rfl, HBW.out, fun j y hj => absurd hj (by omega)⟩
      case round =>
        obtain ⟨j, hj, rfl, hbq, hnj⟩ := hrel
        have HBQ := Lib.hid hbq; have HNJ := Lib.hid hnj
        clear hnj
        obtain ⟨b, o, rfl, hbl, hat⟩ := ps_at (HPS.out.below hbq) HX.out
        unfold PAt at hat
        obtain ⟨c0, c1, c2, c3, c4, c5, c6, c7, c8, c9⟩ := hat
        by_cases hjk : j < k
        · obtain ⟨y, hy⟩ : ∃ y, l[j]? = some y := ⟨_, List.getElem?_eq_getElem (by have := HN.out; omega)⟩
          have HY := Lib.hid hy
          obtain ⟨b2, o2, e2, hb2, hat⟩ := ps_at (HPS.out.below hbq) hy
          injection e2 with e2
          injection e2 with e2 e3
          subst e2; subst e3
          unfold PAt at hat
          obtain ⟨d0, d1, d2, d3, d4, d5, d6, d7, d8, d9⟩ := hat
          obtain ⟨q2, hq2⟩ : ∃ q2, Rep.alike x y = q2 := ⟨_, rfl⟩
          have HQ2 := Lib.hid hq2
          have HAL : Hid (∀ W, Calls Try.prog 33 #[.agg #[.int .i64 x.d, .int .u64 x.t, .int .i64 x.s, .int .i64 x.k, .int .i64 x.a0, .int .i64 x.a1, .int .i64 x.a2, .int .i64 x.a3, .int .i64 x.a4, .int .i64 x.a5], .agg #[.int .i64 y.d, .int .u64 y.t, .int .i64 y.s, .int .i64 y.k, .int .i64 y.a0, .int .i64 y.a1, .int .i64 y.a2, .int .i64 y.a3, .int .i64 y.a4, .int .i64 y.a5]] W fun e w' => e = .returned (.bool q2) ∧ Below W.heap.size W w') := Lib.hid (fun W => by
            have := rAlike_any x y W
            rw [hq2] at this
            exact this)
          have hjn : (j : Int) < (n : Int) := by omega
          have hL := @Later.cell
          clear hy hq2 hbq
          cases q2
          all_goals
            go_wp2
            refine wp_region_later (by kernel_rfl) (by kernel_rfl) ?_
            repeat (go_big_quiet_step (first | (go_at_call 33; with_reducible exact later_call (HAL.out _))))
            refine wpQuiet_nil ?_
            rintro w2 ⟨u, rfl⟩
            go_wp2
          · go_roundw
            case rel =>
              refine ⟨j + 1, by omega, by go_num, HBQ.out.trans (u.prop.mono HBQ.out.size), fun j' y' h1 h2 => ?_⟩
              rcases (by omega : j' < j ∨ j' = j) with h | h
              · exact HNJ.out j' y' h h2
              · subst h
                rw [HY.out] at h2
                injection h2 with h2
                rw [← h2]; exact HQ2.out
            case measure => simp [intOf]; omega
          · go_ret
            refine ⟨ret_bool ?_, HBQ.out.trans (u.prop.mono HBQ.out.size)⟩
            cases hbv : bv
            · rfl
            · have := (HBV.out.1 hbv).2 k j x y hjk HX.out HY.out
              rw [HQ2.out] at this
              cases this
        · obtain rfl : j = k := by omega
          clear hbq
          go_wp2_with fail
          refine (HM.out _).mono ?_
          rintro e w3 ⟨rfl, hb3⟩
          have HB3 := Lib.hid (HBQ.out.trans (hb3.mono HBQ.out.size))
          clear hb3 c0 c1 c2 c3 c4 c5 c6 c7 c8 c9
          cases q
          · go_wp2
            go_ret
            refine ⟨ret_bool ?_, HB3.out⟩
            cases hbv : bv
            · rfl
            · have := (HBV.out.1 hbv).1 x (List.mem_of_getElem? HX.out)
              rw [HQ.out] at this
              cases this
          · go_wp2
            go_roundw
            case rel =>
              refine ⟨j + 1, by omega, by go_num, HB3.out, fun z hz => ?_, fun i j' x' y' h1 h2 h3 h4 => ?_⟩
              · rw [List.take_add_one, HX.out] at hz
                rcases List.mem_append.1 hz with hz | hz
                · exact HMM.out z hz
                · have : z = x := by simpa using hz
                  rw [this]; exact HQ.out
              · rcases (by omega : i < j ∨ i = j) with h | h
                · exact HNO.out i j' x' y' h1 h h3 h4
                · subst h
                  rw [HX.out] at h3
                  injection h3 with h3
                  rw [← h3]
                  exact HNJ.out j' y' h1 h4
            case measure => simp [intOf]; omega
    · obtain rfl : k = n := by omega
      have HF : Hid (bv = true) := Lib.hid (HBV.out.2 ⟨fun z hz => HMM.out z (by rw [List.take_of_length_le (by have := HN.out; omega)]; exact hz), fun i j x y h1 h2 h3 => HNO.out i j x y h1 (by have := (List.getElem?_eq_some_iff.1 h2).1; have := HN.out; omega) h2 h3⟩)
      go_wp2
      go_ret
      exact ⟨ret_bool HF.out.symm, HBW.out⟩

set_option maxRecDepth 4000 in
set_option maxHeartbeats 1000000 in
theorem rThose_any (l : List Pst) (a b : Int) (p : Option Addr) (n cap : Nat) (hnb : n ≤ 1000000) (w : World) (hs : PS w (.slice p n cap) l) :
    Calls Try.prog 70 #[.int .i64 a, .int .i64 b, .slice p n cap] w
      fun e w' => ∃ v' s', e = .returned v' ∧ Srt.Mix keyP (l.filter (Rep.within a b)) s' ∧ Srt.Up keyP s' ∧ w'.ownsRow w.heap.size 68 10 v' s'.length (encL Pst.cells s') ∧ Below w.heap.size w w' := by
  have HPS := Lib.hid hs; have HN := Lib.hid (ps_len hs).1; have HWF := Lib.hid (ps_wf hs)
  have hn1 := (ps_len hs).2.1
  have hn2 := (ps_len hs).2.2
  clear hs
  have HQW : Hid (∀ x, Rep.within a b x = (decide (a ≤ x.d) && decide (x.d ≤ b))) := Lib.hid (fun x => rfl)
  generalize hq : Rep.within a b = q at *
  go_enter Try.func70, Try.ntmps70
  go_wp2
  go_loopw [8, 7] (fun i v wr => ∃ k : Nat, k ≤ n ∧ i = .int .i64 k ∧ wr.ownsRow w.heap.size 68 10 v ((l.take k).filter q).length (encL Pst.cells ((l.take k).filter q)) ∧ Below w.heap.size w wr) (fun i _ _ => n - (intOf i).toNat)
  case atStart => exact ⟨0, Nat.zero_le _, rfl, World.ownsRow_nil _ _ _ _, Below.refl _ _⟩
  case round =>
    obtain ⟨k, hk, rfl, hown, hbw⟩ := hrel
    have HO := Lib.hid hown; have HBW := Lib.hid hbw
    have HLE : Hid (((l.take k).filter q).length ≤ n) := Lib.hid (Nat.le_trans (List.length_filter_le _ _) (by rw [List.length_take]; omega))
    clear hown
    by_cases hlt : k < n
    · obtain ⟨x, hx⟩ : ∃ x, l[k]? = some x := ⟨_, List.getElem?_eq_getElem (by have := HN.out; omega)⟩
      obtain ⟨bb, o, rfl, hbl, hat⟩ := ps_at (HPS.out.below hbw) hx
      have HT : Hid ((l.take (k + 1)).filter q = (l.take k).filter q ++ (if q x then [x] else [])) := Lib.hid (by
        rw [List.take_add_one, hx, List.filter_append]
        simp [List.filter_cons])
      unfold PAt at hat
      obtain ⟨c0, c1, c2, c3, c4, c5, c6, c7, c8, c9⟩ := hat
      have hqx := HQW.out x
      clear hx hbw
      by_cases h0 : a ≤ x.d
      · by_cases h1 : x.d ≤ b
        · have hy : q x = true := by rw [hqx]; simp [h0, h1]
          rw [hy] at HT
          have HT2 : Hid ((l.take (k + 1)).filter q = (l.take k).filter q ++ [x]) := Lib.hid (by rw [HT.out]; simp)
          clear hy hqx HT
          go_wp2_with (at_builtin; refine wpList_append_recs elemP rfl _ _ rfl w.heap.size _ _ _ rfl (recs_below HO.out ((Below.refl _ _).alloc (Nat.le_refl _) _)) _ [x] rfl (row_one (x := x) (new_rowW _ _ _ rfl) rfl Pst.cells_length (by decide)) (by have := HLE.out; simp <;> omega) (by have := HBW.out.size; simp <;> omega) ?_; intro v2 w2 hown2 hg2 hn2 hat2)
          have HO2 : Hid (w2.ownsRow w.heap.size 68 10 v2 ((l.take (k + 1)).filter q).length (encL Pst.cells ((l.take (k + 1)).filter q))) := Lib.hid (by
            rw [HT2.out, List.length_append]
            exact hown2)
          have HB2 := Lib.hid ((HBW.out.alloc HBW.out.size _).grown hg2 (by have := HBW.out.size; simp <;> omega) (fun b hb => (recs_base HO.out hb).1))
          clear hown2 hg2 hn2 hat2
          go_wp2
          go_roundw
          case rel => exact ⟨k + 1, by omega, by go_num, HO2.out, HB2.out⟩
          case measure => simp [intOf]; omega
        · have hy : q x = false := by rw [hqx]; simp [h1]
          rw [hy] at HT
          have HT2 : Hid ((l.take (k + 1)).filter q = (l.take k).filter q) := Lib.hid (by rw [HT.out]; simp)
          clear hy hqx HT
          go_wp2
          go_roundw
          case rel => exact ⟨k + 1, by omega, by go_num, by rw [HT2.out]; exact HO.out, HBW.out⟩
          case measure => simp [intOf]; omega
      · have hy : q x = false := by rw [hqx]; simp [h0]
        rw [hy] at HT
        have HT2 : Hid ((l.take (k + 1)).filter q = (l.take k).filter q) := Lib.hid (by rw [HT.out]; simp)
        clear hy hqx HT
        go_wp2
        go_roundw
        case rel => exact ⟨k + 1, by omega, by go_num, by rw [HT2.out]; exact HO.out, HBW.out⟩
        case measure => simp [intOf]; omega
    · obtain rfl : k = n := by omega
      have hown := HO.out
      rw [List.take_of_length_le (by have := HN.out; omega)] at hown
      have hls := LS.of_own hown Pst.cells_length (by decide)
      obtain ⟨p1, c1, hv⟩ := hls.shape
      subst hv
      have HS : Hid (∀ W, LS Pst.cells 10 W (.slice p1 (l.filter q).length c1) (l.filter q) → _) := Lib.hid (fun W h => rSort_any (l.filter q) (fun z hz => HWF.out z (List.mem_filter.1 hz).1) p1 _ c1 (Nat.le_trans (List.length_filter_le _ _) (by have := HN.out; omega)) W h)
      have HLS := Lib.hid hls
      clear hown hbw hls
      generalize (l.filter q).length = m at *
      go_wp2_with fail
      refine (HS.out _ HLS.out).mono ?_
      rintro e w2 ⟨v2, s2, rfl, hm, hu, hown, hb2⟩
      have HM := Lib.hid hm; have HU := Lib.hid hu; have HB2 := Lib.hid (HBW.out.trans (hb2.mono HBW.out.size))
      have HO2 : Hid (w2.ownsRow w.heap.size 68 10 v2 s2.length (encL Pst.cells s2)) := Lib.hid (own_lower hown HBW.out.size)
      clear hm hu hown hb2
      go_wp2
      go_ret
      exact ⟨_, s2, rfl, HM.out, HU.out, HO2.out, HB2.out⟩
end Go.Proofs.Ytajpggnmhkpbkaa
