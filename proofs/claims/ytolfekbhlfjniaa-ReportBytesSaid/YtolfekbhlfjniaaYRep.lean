/- Contracts of the report: pick, made, Make. Contract: report.Make. Contracts of the report reference: Alike, Fine, those, Make, Same. Contracts of the report reference: Make, Same. Contracts: both Makes, of the one sorted list of the rows. Contracts: which reports may be, of both. -/
import Derived.Test.YtolfekbhlfjniaaRepA
import Derived.Test.YtolfekbhlfjniaaSrtJ
import Derived.Test.YtolfekbhlfjniaaSumC
import Derived.Deep.RegionHeld3
import Derived.Deep.RegionLaw
import Derived.Test.YtolfekbhlfjniaaSrtL
import Derived.Test.YtolfekbhlfjniaaRepF
set_option linter.unusedVariables false
set_option linter.unusedSimpArgs false
namespace Go.Proofs.Ytolfekbhlfjniaa
open Go.RowKit

theorem own_lower {w : World} {base base' e n m : Nat} {v : Value} {xs : List Value} (h : w.ownsRow base e n v m xs) (hb : base' ≤ base) : w.ownsRow base' e n v m xs := by
  obtain ⟨h1, h2⟩ := h
  refine ⟨h1, ?_⟩
  rcases h2 with h2 | ⟨g, cap, cur, e1, hg, h3⟩
  · exact .inl h2
  · exact .inr ⟨g, cap, cur, e1, Nat.le_trans hb hg, h3⟩
theorem ten_only {w a : World} {g : Nat} (h : Only g a w) (v0 v1 v2 v3 v4 v5 v6 v7 v8 v9 : Value) : Only g a ((((((((((w.setCell ⟨g, 0, none⟩ v0).setCell ⟨g, 1, none⟩ v1).setCell ⟨g, 2, none⟩ v2).setCell ⟨g, 3, none⟩ v3).setCell ⟨g, 4, none⟩ v4).setCell ⟨g, 5, none⟩ v5).setCell ⟨g, 6, none⟩ v6).setCell ⟨g, 7, none⟩ v7).setCell ⟨g, 8, none⟩ v8).setCell ⟨g, 9, none⟩ v9) :=
  (((((((((h.setCell 0 v0).setCell 1 v1).setCell 2 v2).setCell 3 v3).setCell 4 v4).setCell 5 v5).setCell 6 v6).setCell 7 v7).setCell 8 v8).setCell 9 v9
/-- rows of one's own, where one older block alone was written -/
theorem own_only {w3 w4 W : World} {base b0 e n m g : Nat} {v : Value} {xs : List Value} (h : w3.ownsRow base e n v m xs) (hb : Below w3.heap.size w3 w4) (ho : Only g w4 W) (hg : g < base) (h0 : b0 ≤ base) : W.ownsRow b0 e n v m xs := by
  refine own_lower (recs_keep h fun b hb' hlt => ?_) h0
  have := recs_base h hb'
  rw [ho.block b (by have := hb.size; omega) (by omega), hb.block b hlt]
set_option maxRecDepth 4000 in
set_option maxHeartbeats 1000000 in
theorem pickMake_any (l : List Pst) (a b : Int) (ga gb : Nat) (p : Option Addr) (n cap : Nat) (hnb : n ≤ 1000000) (w : World) (hs : PS w (.slice p n cap) l) (ha : w.cell? ⟨ga, 0, none⟩ = some (.int .i64 a)) (hb : w.cell? ⟨gb, 0, none⟩ = some (.int .i64 b)) :
    Calls Try.prog 30 #[.slice p n cap, .func (.func 31) #[] #[.pointer (some ⟨ga, 0, none⟩), .pointer (some ⟨gb, 0, none⟩)]] w
      fun e w' => ∃ v', e = .returned v' ∧ w'.ownsRow w.heap.size 38 10 v' (l.filter (Rep.within a b)).length (encL Pst.cells (l.filter (Rep.within a b))) ∧ Below w.heap.size w w' := by
  have HPS := Lib.hid hs; have HN := Lib.hid (ps_len hs).1
  have hn1 := (ps_len hs).2.1
  have hn2 := (ps_len hs).2.2
  have HA := Lib.hid ha; have HB := Lib.hid hb
  have hga := cell_blockW ha
  have hgb := cell_blockW hb
  simp only at hga hgb
  clear hs ha hb
  generalize hq : Rep.within a b = q at *
  go_enter Try.func30, Try.ntmps30
  go_wp2
  go_loopw [10, 5] (fun i v wr => ∃ k : Nat, k ≤ n ∧ i = .int .i64 k ∧ wr.ownsRow w.heap.size 38 10 v ((l.take k).filter q).length (encL Pst.cells ((l.take k).filter q)) ∧ Below w.heap.size w wr) (fun i _ _ => n - (intOf i).toNat)
  case atStart => exact ⟨0, Nat.zero_le _, rfl, World.ownsRow_nil _ _ _ _, Below.refl _ _⟩
  case round =>
    obtain ⟨k, hk, rfl, hown, hbw⟩ := hrel
    have HO := Lib.hid hown; have HBW := Lib.hid hbw
    have HLE : Hid (((l.take k).filter q).length ≤ n) := Lib.hid (Nat.le_trans (List.length_filter_le _ _) (by rw [List.length_take]; omega))
    clear hown
    by_cases hlt : k < n
    · obtain ⟨x, hx⟩ : ∃ x, l[k]? = some x := ⟨_, List.getElem?_eq_getElem (by have := HN.out; omega)⟩
      obtain ⟨bb, o, rfl, hbl, hat⟩ := ps_at (HPS.out.below hbw) hx
      have HT : Hid ((l.take (k + 1)).filter q = (l.take k).filter q ++ (if q x then [x] else [])) := Lib.hid (by
        rw [List.take_add_one, hx, List.filter_append]
        simp [List.filter_cons])
      have HW : Hid (∀ W, W.cell? ⟨ga, 0, none⟩ = some (.int .i64 a) → W.cell? ⟨gb, 0, none⟩ = some (.int .i64 b) → Calls Try.prog 31 #[.agg #[.int .i64 x.d, .int .u64 x.t, .int .i64 x.s, .int .i64 x.k, .int .i64 x.a0, .int .i64 x.a1, .int .i64 x.a2, .int .i64 x.a3, .int .i64 x.a4, .int .i64 x.a5], .pointer (some ⟨ga, 0, none⟩), .pointer (some ⟨gb, 0, none⟩)] W fun e w' => e = .returned (.bool (q x)) ∧ Below W.heap.size W w') := Lib.hid (fun W h1 h2 => by rw [← hq]; exact mk1_any x a b ga gb W h1 h2)
      unfold PAt at hat
      obtain ⟨c0, c1, c2, c3, c4, c5, c6, c7, c8, c9⟩ := hat
      have hb0 := (Below.refl wr.heap.size wr).alloc (Nat.le_refl _) (.cells #[.int .i64 x.d, .int .u64 x.t, .int .i64 x.s, .int .i64 x.k, .int .i64 x.a0, .int .i64 x.a1, .int .i64 x.a2, .int .i64 x.a3, .int .i64 x.a4, .int .i64 x.a5] 38 (0, 0))
      clear hx hbw
      go_wp2_with fail
      refine (HW.out _ ((((HBW.out.alloc HBW.out.size (.cells #[.int .i64 x.d, .int .u64 x.t, .int .i64 x.s, .int .i64 x.k, .int .i64 x.a0, .int .i64 x.a1, .int .i64 x.a2, .int .i64 x.a3, .int .i64 x.a4, .int .i64 x.a5] 38 (0, 0)))).cell (p := ⟨ga, 0, none⟩) hga).trans HA.out) ((((HBW.out.alloc HBW.out.size (.cells #[.int .i64 x.d, .int .u64 x.t, .int .i64 x.s, .int .i64 x.k, .int .i64 x.a0, .int .i64 x.a1, .int .i64 x.a2, .int .i64 x.a3, .int .i64 x.a4, .int .i64 x.a5] 38 (0, 0)))).cell (p := ⟨gb, 0, none⟩) hgb).trans HB.out)).mono ?_
      rintro e w1 ⟨rfl, hb1⟩
      have hrow := (hb1.block wr.heap.size (by simp)).trans (new_row wr (.cells #[.int .i64 x.d, .int .u64 x.t, .int .i64 x.s, .int .i64 x.k, .int .i64 x.a0, .int .i64 x.a1, .int .i64 x.a2, .int .i64 x.a3, .int .i64 x.a4, .int .i64 x.a5] 38 (0, 0)) _ rfl)
      have HB1 := Lib.hid (hb0.trans (hb1.mono (by simp)))
      have HBW1 := Lib.hid (HBW.out.trans (HB1.out.mono HBW.out.size))
      have HO1 := Lib.hid (recs_below HO.out HB1.out)
      clear hb1 hb0 c0 c1 c2 c3 c4 c5 c6 c7 c8 c9
      generalize wr.heap.size = gp at *
      have hcp := fun j => cell_of_row w1 gp j _ _ _ hrow
      obtain ⟨y, hy⟩ : ∃ y, q x = y := ⟨_, rfl⟩
      rw [hy] at HT ⊢
      cases y
      · have HT2 : Hid ((l.take (k + 1)).filter q = (l.take k).filter q) := Lib.hid (by rw [HT.out]; simp)
        clear hy hrow
        go_wp2
        go_roundw
        case rel => exact ⟨k + 1, by omega, by go_num, by rw [HT2.out]; exact HO1.out, HBW1.out⟩
        case measure => simp [intOf]; omega
      · have HT2 : Hid ((l.take (k + 1)).filter q = (l.take k).filter q ++ [x]) := Lib.hid (by rw [HT.out]; simp)
        clear hy hrow
        go_wp2_with (at_builtin; refine wpList_append_recs elemP rfl _ _ rfl w.heap.size _ _ _ rfl (recs_below HO1.out ((Below.refl _ _).alloc (Nat.le_refl _) _)) _ [x] rfl (row_one (x := x) (new_rowW _ _ _ rfl) rfl Pst.cells_length (by decide)) (by have := HLE.out; simp <;> omega) (by have := HBW1.out.size; simp <;> omega) ?_; intro v2 w2 hown2 hg2 hn2 hat2)
        have HO2 : Hid (w2.ownsRow w.heap.size 38 10 v2 ((l.take (k + 1)).filter q).length (encL Pst.cells ((l.take (k + 1)).filter q))) := Lib.hid (by
          rw [HT2.out, List.length_append]
          exact hown2)
        have HB2 := Lib.hid ((HBW1.out.alloc HBW1.out.size _).grown hg2 (by have := HBW1.out.size; simp <;> omega) (fun b hb => (recs_base HO1.out hb).1))
        clear hown2 hg2 hn2 hat2
        go_wp2
        go_roundw
        case rel => exact ⟨k + 1, by omega, by go_num, HO2.out, HB2.out⟩
        case measure => simp [intOf]; omega
    · obtain rfl : k = n := by omega
      have hown := HO.out
      rw [List.take_of_length_le (by have := HN.out; omega)] at hown
      have HO1 := Lib.hid hown
      clear hown hbw
      go_wp2
      go_ret
      exact ⟨_, rfl, HO1.out, HBW.out⟩

set_option maxRecDepth 4000 in
set_option maxHeartbeats 1000000 in
theorem made_bad (from0 to0 : Int) (l : List Pst) (p : Option Addr) (n cap : Nat) (w : World) (hs : PS w (.slice p n cap) l) (ev m x0 x1 x2 x3 x4 x5 : Int) (hsum : Post.sums l = ⟨ev, m, [x0, x1, x2, x3, x4, x5]⟩) (hev : ¬ ev = 0) :
    Calls Try.prog 29 #[.int .i64 from0, .int .i64 to0, .slice p n cap] w fun e w' => e = .returned (.tuple #[.agg #[.int .i64 0, .int .i64 0, .slice none 0 0, .int .i64 0, .int .i64 0, .int .i64 0, .int .i64 0, .int .i64 0, .int .i64 0, .int .i64 0], .int .i64 ev]) ∧ Below w.heap.size w w' := by
  have HS := Lib.hid (fun W h => sum_any l p n cap (ps_len hs).1 W h ev m x0 x1 x2 x3 x4 x5 hsum)
  have HPS := Lib.hid hs
  clear hs hsum
  go_enter Try.func29, Try.ntmps29
  go_wp2_with fail
  refine (HS.out _ (HPS.out.below ((Below.refl _ _).alloc (Nat.le_refl _) _))).mono ?_
  rintro e w1 ⟨rfl, hb1⟩
  have hrow := (hb1.block w.heap.size (by simp)).trans (new_row w (.cells #[.int .i64 0, .int .i64 0, .slice none 0 0, .int .i64 0, .int .i64 0, .int .i64 0, .int .i64 0, .int .i64 0, .int .i64 0, .int .i64 0] 27 (0, 0)) _ rfl)
  have HB1 := Lib.hid (((Below.refl w.heap.size w).alloc (Nat.le_refl _) _).trans (hb1.mono (by simp)))
  have hz := block_lt hrow
  have HR := Lib.hid hrow
  have hc := fun j => cell_of_row w1 w.heap.size j _ _ _ hrow
  have hf := fun j => frozen_of_row w1 w.heap.size j _ _ hrow
  clear hb1 hrow
  go_wp2
  have hrow := row_alloc (ten_row HR.out (.int .i64 0) (.int .i64 0) (.slice none 0 0) (.int .i64 0) (.int .i64 0) (.int .i64 0) (.int .i64 0) (.int .i64 0) (.int .i64 0) (.int .i64 0)) (.cells #[.int .i64 m, .int .i64 x0, .int .i64 x1, .int .i64 x2, .int .i64 x3, .int .i64 x4, .int .i64 x5] 25 (0, 0))
  refine bodyPost_ret (v := .tuple #[.agg #[.int .i64 0, .int .i64 0, .slice none 0 0, .int .i64 0, .int .i64 0, .int .i64 0, .int .i64 0, .int .i64 0, .int .i64 0, .int .i64 0], .int .i64 ev]) (by simp [results, Try.results29, go_sem, fun i => cell_of_row _ _ i _ _ _ hrow]) rfl ⟨rfl, ?_⟩
  exact balloc (ten_below HB1.out (Nat.le_refl _) _ _ _ _ _ _ _ _ _ _) _

set_option maxRecDepth 4000 in
set_option maxHeartbeats 1000000 in
theorem made_ok (from0 to0 : Int) (l : List Pst) (p : Option Addr) (n cap : Nat) (w : World) (hs : PS w (.slice p n cap) l) (m x0 x1 x2 x3 x4 x5 : Int) (hsum : Post.sums l = ⟨0, m, [x0, x1, x2, x3, x4, x5]⟩) :
    Calls Try.prog 29 #[.int .i64 from0, .int .i64 to0, .slice p n cap] w fun e w' => e = .returned (.tuple #[.agg #[.int .i64 from0, .int .i64 to0, (.slice p n cap), .int .i64 m, .int .i64 x0, .int .i64 x1, .int .i64 x2, .int .i64 x3, .int .i64 x4, .int .i64 x5], .int .i64 0]) ∧ Below w.heap.size w w' := by
  have HS := Lib.hid (fun W h => sum_any l p n cap (ps_len hs).1 W h 0 m x0 x1 x2 x3 x4 x5 hsum)
  have HPS := Lib.hid hs
  clear hs hsum
  go_enter Try.func29, Try.ntmps29
  go_wp2_with fail
  refine (HS.out _ (HPS.out.below ((Below.refl _ _).alloc (Nat.le_refl _) _))).mono ?_
  rintro e w1 ⟨rfl, hb1⟩
  have hrow := (hb1.block w.heap.size (by simp)).trans (new_row w (.cells #[.int .i64 0, .int .i64 0, .slice none 0 0, .int .i64 0, .int .i64 0, .int .i64 0, .int .i64 0, .int .i64 0, .int .i64 0, .int .i64 0] 27 (0, 0)) _ rfl)
  have HB1 := Lib.hid (((Below.refl w.heap.size w).alloc (Nat.le_refl _) _).trans (hb1.mono (by simp)))
  have hz := block_lt hrow
  have HR := Lib.hid hrow
  have hc := fun j => cell_of_row w1 w.heap.size j _ _ _ hrow
  have hf := fun j => frozen_of_row w1 w.heap.size j _ _ hrow
  clear hb1 hrow
  go_wp2
  have hrow := row_alloc (ten_row HR.out (.int .i64 from0) (.int .i64 to0) (.slice p n cap) (.int .i64 m) (.int .i64 x0) (.int .i64 x1) (.int .i64 x2) (.int .i64 x3) (.int .i64 x4) (.int .i64 x5)) (.cells #[.int .i64 m, .int .i64 x0, .int .i64 x1, .int .i64 x2, .int .i64 x3, .int .i64 x4, .int .i64 x5] 25 (0, 0))
  refine bodyPost_ret (v := .tuple #[.agg #[.int .i64 from0, .int .i64 to0, (.slice p n cap), .int .i64 m, .int .i64 x0, .int .i64 x1, .int .i64 x2, .int .i64 x3, .int .i64 x4, .int .i64 x5], .int .i64 0]) (by simp [results, Try.results29, go_sem, fun i => cell_of_row _ _ i _ _ _ hrow]) rfl ⟨rfl, ?_⟩
  exact balloc (ten_below HB1.out (Nat.le_refl _) _ _ _ _ _ _ _ _ _ _) _
end Go.Proofs.Ytolfekbhlfjniaa

set_option linter.unusedVariables false
set_option linter.unusedSimpArgs false
namespace Go.Proofs.Ytolfekbhlfjniaa
open Go.RowKit

set_option maxRecDepth 4000 in
set_option maxHeartbeats 1000000 in
theorem make_bad (from0 to0 : Int) (l : List Pst) (p : Option Addr) (n cap : Nat) (hnb : n ≤ 1000000) (hbad : ¬ (Rep.days from0 to0 = true ∧ Rep.FineP l)) (w : World) (hs : PS w (.slice p n cap) l) :
    Calls Try.prog 9 #[.int .i64 from0, .int .i64 to0, .slice p n cap] w fun e w' => e = .returned (.tuple #[.agg #[.int .i64 0, .int .i64 0, .slice none 0 0, .int .i64 0, .int .i64 0, .int .i64 0, .int .i64 0, .int .i64 0, .int .i64 0, .int .i64 0], .int .i64 2]) ∧ Below w.heap.size w w' := by
  have HPS := Lib.hid hs; have HWF := Lib.hid (ps_wf hs); have HN := Lib.hid (ps_len hs).1
  have HS := Lib.hid (fun W h => sortP_any (.slice p n cap) l (by have := HN.out; omega) HWF.out W (ls_of_ps h).1)
  clear hs
  have hb0 := (((Below.refl w.heap.size w).alloc (Nat.le_refl _) (.cells #[.int .i64 from0] 3 (0, 0))).alloc (by simp) (.cells #[.int .i64 to0] 3 (0, 0))).alloc (by simp; omega) (.cells #[.int .i64 0, .int .i64 0, .slice none 0 0, .int .i64 0, .int .i64 0, .int .i64 0, .int .i64 0, .int .i64 0, .int .i64 0, .int .i64 0] 27 (0, 0))
  have hr0 := row_alloc (row_alloc (new_row w (.cells #[.int .i64 from0] 3 (0, 0)) _ rfl) (.cells #[.int .i64 to0] 3 (0, 0))) (.cells #[.int .i64 0, .int .i64 0, .slice none 0 0, .int .i64 0, .int .i64 0, .int .i64 0, .int .i64 0, .int .i64 0, .int .i64 0, .int .i64 0] 27 (0, 0))
  have hr1 := row_alloc (new_row (w.alloc (.cells #[.int .i64 from0] 3 (0, 0))) (.cells #[.int .i64 to0] 3 (0, 0)) (w.heap.size + 1) (by simp)) (.cells #[.int .i64 0, .int .i64 0, .slice none 0 0, .int .i64 0, .int .i64 0, .int .i64 0, .int .i64 0, .int .i64 0, .int .i64 0, .int .i64 0] 27 (0, 0))
  have hr2 := new_row ((w.alloc (.cells #[.int .i64 from0] 3 (0, 0))).alloc (.cells #[.int .i64 to0] 3 (0, 0))) (.cells #[.int .i64 0, .int .i64 0, .slice none 0 0, .int .i64 0, .int .i64 0, .int .i64 0, .int .i64 0, .int .i64 0, .int .i64 0, .int .i64 0] 27 (0, 0)) (w.heap.size + 2) (by simp)
  go_enter Try.func9, Try.ntmps9
  go_wp2_with fail
  generalize ((w.alloc (.cells #[.int .i64 from0] 3 (0, 0))).alloc (.cells #[.int .i64 to0] 3 (0, 0))).alloc (.cells #[.int .i64 0, .int .i64 0, .slice none 0 0, .int .i64 0, .int .i64 0, .int .i64 0, .int .i64 0, .int .i64 0, .int .i64 0, .int .i64 0] 27 (0, 0)) = W0 at *
  refine (HS.out _ (HPS.out.below hb0)).mono ?_
  rintro e w1 ⟨v1, s, rfl, hm, hu, hmine, hb1⟩
  have hr0 := (hb1.block w.heap.size (block_lt hr0)).trans hr0
  have hr1 := (hb1.block (w.heap.size + 1) (block_lt hr1)).trans hr1
  have hr2 := (hb1.block (w.heap.size + 2) (block_lt hr2)).trans hr2
  have HB1 := Lib.hid (hb0.trans (hb1.mono hb0.size))
  have HM := Lib.hid hm; have HU := Lib.hid hu
  have HLS := Lib.hid (ps_of_ls (hmine.ls Pst.cells_length (by decide)) (WF.mix hm HWF.out))
  have HSL : Hid (s.length = n) := Lib.hid (by rw [← hm.1, HN.out])
  obtain ⟨p1, c1, hv⟩ := (hmine.ls Pst.cells_length (by decide)).shape
  rw [HSL.out] at hv
  subst hv
  clear hm hu hmine hb1 hb0
  have HR0 := Lib.hid hr0; have HR1 := Lib.hid hr1; have HR2 := Lib.hid hr2
  have hc0 := cell_of_row w1 w.heap.size 0 _ _ _ hr0
  have hc1 := cell_of_row w1 (w.heap.size + 1) 0 _ _ _ hr1
  have hc2 := fun j => cell_of_row w1 (w.heap.size + 2) j _ _ _ hr2
  have hf2 := fun j => frozen_of_row w1 (w.heap.size + 2) j _ _ hr2
  have hz0 := block_lt hr0; have hz1 := block_lt hr1; have hz2 := block_lt hr2
  clear hr0 hr1 hr2
  by_cases hd : Rep.days from0 to0 = true
  · have HRS : Hid (∀ W, PS W (.slice p1 n c1) s → _) := Lib.hid (fun W h => rising_any s false (by
      have h1 := Rep.ris_of HWF.out HM.out HU.out
      constructor
      · intro h; cases h
      · intro h; exact absurd ⟨hd, h1.1 h⟩ hbad) p1 n c1 W h)
    have HD : Hid (∀ W, Calls Try.prog 27 #[.int .i64 from0, .int .i64 to0] W fun e w' => e = .returned (.bool true) ∧ W = w') := Lib.hid (fun W => by have := pDays_any from0 to0 W; rwa [hd] at this)
    clear hbad hd
    go_wp2_with fail
    refine (HD.out _).mono ?_
    rintro e w2 ⟨rfl, rfl⟩
    go_wp2_with fail
    refine (HRS.out _ HLS.out).mono ?_
    rintro e w2 ⟨rfl, hb2⟩
    have hr2 := (hb2.block (w.heap.size + 2) hz2).trans HR2.out
    have HB2 := Lib.hid (HB1.out.trans (hb2.mono HB1.out.size))
    clear hb2 hc0 hc1 hc2 hf2
    have hc2 := fun j => cell_of_row w2 (w.heap.size + 2) j _ _ _ hr2
    have hf2 := fun j => frozen_of_row w2 (w.heap.size + 2) j _ _ hr2
    have HR2 := Lib.hid hr2
    clear hr2
    go_wp2
    have hrow := ten_row HR2.out (.int .i64 0) (.int .i64 0) (.slice none 0 0) (.int .i64 0) (.int .i64 0) (.int .i64 0) (.int .i64 0) (.int .i64 0) (.int .i64 0) (.int .i64 0)
    refine bodyPost_ret (v := .tuple #[.agg #[.int .i64 0, .int .i64 0, .slice none 0 0, .int .i64 0, .int .i64 0, .int .i64 0, .int .i64 0, .int .i64 0, .int .i64 0, .int .i64 0], .int .i64 2]) (by simp [results, Try.results9, go_sem, fun i => cell_of_row _ _ i _ _ _ hrow]) rfl ⟨rfl, ?_⟩
    exact ten_below HB2.out (by omega) _ _ _ _ _ _ _ _ _ _
  · have HD : Hid (∀ W, Calls Try.prog 27 #[.int .i64 from0, .int .i64 to0] W fun e w' => e = .returned (.bool false) ∧ W = w') := Lib.hid (fun W => by have := pDays_any from0 to0 W; rw [show Rep.days from0 to0 = false by simpa using hd] at this; exact this)
    clear hbad hd
    go_wp2_with fail
    refine (HD.out _).mono ?_
    rintro e w2 ⟨rfl, rfl⟩
    go_wp2
    have hrow := ten_row HR2.out (.int .i64 0) (.int .i64 0) (.slice none 0 0) (.int .i64 0) (.int .i64 0) (.int .i64 0) (.int .i64 0) (.int .i64 0) (.int .i64 0) (.int .i64 0)
    refine bodyPost_ret (v := .tuple #[.agg #[.int .i64 0, .int .i64 0, .slice none 0 0, .int .i64 0, .int .i64 0, .int .i64 0, .int .i64 0, .int .i64 0, .int .i64 0, .int .i64 0], .int .i64 2]) (by simp [results, Try.results9, go_sem, fun i => cell_of_row _ _ i _ _ _ hrow]) rfl ⟨rfl, ?_⟩
    exact ten_below HB1.out (by omega) _ _ _ _ _ _ _ _ _ _

set_option maxRecDepth 4000 in
set_option maxHeartbeats 2000000 in
theorem make_ok (from0 to0 : Int) (l : List Pst) (p : Option Addr) (n cap : Nat) (hnb : n ≤ 1000000) (hd : Rep.days from0 to0 = true) (hfine : Rep.FineP l) (w : World) (hs : PS w (.slice p n cap) l) :
    Calls Try.prog 9 #[.int .i64 from0, .int .i64 to0, .slice p n cap] w fun e w' => ∃ (v : Value) (rows : List Pst) (ev m x0 x1 x2 x3 x4 x5 : Int), Post.sums rows = ⟨ev, m, [x0, x1, x2, x3, x4, x5]⟩ ∧
      Srt.Mix keyP (l.filter (Rep.within from0 to0)) rows ∧ Srt.Up keyP rows ∧ (∃ s, Srt.Mix keyP l s ∧ rows = s.filter (Rep.within from0 to0)) ∧ Mine Pst.cells 10 w' w.heap.size v rows ∧ Below w.heap.size w w' ∧ (ev = 0 ∧ e = .returned (.tuple #[.agg #[.int .i64 from0, .int .i64 to0, v, .int .i64 m, .int .i64 x0, .int .i64 x1, .int .i64 x2, .int .i64 x3, .int .i64 x4, .int .i64 x5], .int .i64 0]) ∨ ¬ ev = 0 ∧ e = .returned (.tuple #[.agg #[.int .i64 0, .int .i64 0, .slice none 0 0, .int .i64 0, .int .i64 0, .int .i64 0, .int .i64 0, .int .i64 0, .int .i64 0, .int .i64 0], .int .i64 ev])) := by
  have HPS := Lib.hid hs; have HWF := Lib.hid (ps_wf hs); have HN := Lib.hid (ps_len hs).1
  have HS := Lib.hid (fun W h => sortP_any (.slice p n cap) l (by have := HN.out; omega) HWF.out W (ls_of_ps h).1)
  clear hs
  have hb0 := (((Below.refl w.heap.size w).alloc (Nat.le_refl _) (.cells #[.int .i64 from0] 3 (0, 0))).alloc (by simp) (.cells #[.int .i64 to0] 3 (0, 0))).alloc (by simp; omega) (.cells #[.int .i64 0, .int .i64 0, .slice none 0 0, .int .i64 0, .int .i64 0, .int .i64 0, .int .i64 0, .int .i64 0, .int .i64 0, .int .i64 0] 27 (0, 0))
  have hr0 := row_alloc (row_alloc (new_row w (.cells #[.int .i64 from0] 3 (0, 0)) _ rfl) (.cells #[.int .i64 to0] 3 (0, 0))) (.cells #[.int .i64 0, .int .i64 0, .slice none 0 0, .int .i64 0, .int .i64 0, .int .i64 0, .int .i64 0, .int .i64 0, .int .i64 0, .int .i64 0] 27 (0, 0))
  have hr1 := row_alloc (new_row (w.alloc (.cells #[.int .i64 from0] 3 (0, 0))) (.cells #[.int .i64 to0] 3 (0, 0)) (w.heap.size + 1) (by simp)) (.cells #[.int .i64 0, .int .i64 0, .slice none 0 0, .int .i64 0, .int .i64 0, .int .i64 0, .int .i64 0, .int .i64 0, .int .i64 0, .int .i64 0] 27 (0, 0))
  have hr2 := new_row ((w.alloc (.cells #[.int .i64 from0] 3 (0, 0))).alloc (.cells #[.int .i64 to0] 3 (0, 0))) (.cells #[.int .i64 0, .int .i64 0, .slice none 0 0, .int .i64 0, .int .i64 0, .int .i64 0, .int .i64 0, .int .i64 0, .int .i64 0, .int .i64 0] 27 (0, 0)) (w.heap.size + 2) (by simp)
  go_enter Try.func9, Try.ntmps9
  go_wp2_with fail
  generalize ((w.alloc (.cells #[.int .i64 from0] 3 (0, 0))).alloc (.cells #[.int .i64 to0] 3 (0, 0))).alloc (.cells #[.int .i64 0, .int .i64 0, .slice none 0 0, .int .i64 0, .int .i64 0, .int .i64 0, .int .i64 0, .int .i64 0, .int .i64 0, .int .i64 0] 27 (0, 0)) = W0 at *
  refine (HS.out _ (HPS.out.below hb0)).mono ?_
  rintro e w1 ⟨v1, s, rfl, hm, hu, hmine, hb1⟩
  have hr0 := (hb1.block w.heap.size (block_lt hr0)).trans hr0
  have hr1 := (hb1.block (w.heap.size + 1) (block_lt hr1)).trans hr1
  have hr2 := (hb1.block (w.heap.size + 2) (block_lt hr2)).trans hr2
  have HB1 := Lib.hid (hb0.trans (hb1.mono hb0.size))
  have HM := Lib.hid hm; have HU := Lib.hid hu
  have HLS := Lib.hid (ps_of_ls (hmine.ls Pst.cells_length (by decide)) (WF.mix hm HWF.out))
  have HSL : Hid (s.length = n) := Lib.hid (by rw [← hm.1, HN.out])
  obtain ⟨p1, c1, hv⟩ := (hmine.ls Pst.cells_length (by decide)).shape
  rw [HSL.out] at hv
  subst hv
  clear hm hu hmine hb1 hb0
  have HR0 := Lib.hid hr0; have HR1 := Lib.hid hr1; have HR2 := Lib.hid hr2
  have hc0 := cell_of_row w1 w.heap.size 0 _ _ _ hr0
  have hc1 := cell_of_row w1 (w.heap.size + 1) 0 _ _ _ hr1
  have hc2 := fun j => cell_of_row w1 (w.heap.size + 2) j _ _ _ hr2
  have hf2 := fun j => frozen_of_row w1 (w.heap.size + 2) j _ _ hr2
  have hz0 := block_lt hr0; have hz1 := block_lt hr1; have hz2 := block_lt hr2
  clear hr0 hr1 hr2
  have HRS : Hid (∀ W, PS W (.slice p1 n c1) s → _) := Lib.hid (fun W h => rising_any s true (by
    have h1 := Rep.ris_of HWF.out HM.out HU.out
    exact ⟨fun _ => h1.2 hfine, fun _ => rfl⟩) p1 n c1 W h)
  have HD : Hid (∀ W, Calls Try.prog 27 #[.int .i64 from0, .int .i64 to0] W fun e w' => e = .returned (.bool true) ∧ W = w') := Lib.hid (fun W => by have := pDays_any from0 to0 W; rwa [hd] at this)
  clear hd hfine
  go_wp2_with fail
  refine (HD.out _).mono ?_
  rintro e w2 ⟨rfl, rfl⟩
  go_wp2_with fail
  refine (HRS.out _ HLS.out).mono ?_
  rintro e w2 ⟨rfl, hb2⟩
  have hr0 := (hb2.block w.heap.size hz0).trans HR0.out
  have hr1 := (hb2.block (w.heap.size + 1) hz1).trans HR1.out
  have hr2 := (hb2.block (w.heap.size + 2) hz2).trans HR2.out
  have HB2 := Lib.hid (HB1.out.trans (hb2.mono HB1.out.size))
  have HLS2 := Lib.hid (HLS.out.below hb2)
  clear hb2 hc0 hc1 hc2 hf2 HB1 HLS HR0 HR1 HR2 HRS HD HPS HS
  have hc0 := cell_of_row w2 w.heap.size 0 _ _ _ hr0
  have hc1 := cell_of_row w2 (w.heap.size + 1) 0 _ _ _ hr1
  have HR2 := Lib.hid hr2
  have hz0 := block_lt hr0; have hz1 := block_lt hr1; have hz2 := block_lt hr2
  have HSUM := Lib.hid (Post.sums_fine (s.filter (Rep.within from0 to0)))
  obtain ⟨x0, x1, x2, x3, x4, x5, hx⟩ := Post.six_of HSUM.out.1
  obtain ⟨m, hm⟩ : ∃ m, (Post.sums (s.filter (Rep.within from0 to0))).m = m := ⟨_, rfl⟩
  obtain ⟨ev, hev⟩ : ∃ m, (Post.sums (s.filter (Rep.within from0 to0))).e = m := ⟨_, rfl⟩
  have HSM : Hid (Post.sums (s.filter (Rep.within from0 to0)) = ⟨ev, m, [x0, x1, x2, x3, x4, x5]⟩) := Lib.hid (by rw [← hx, ← hm, ← hev])
  have HWFR : Hid (WF (s.filter (Rep.within from0 to0))) := Lib.hid (fun z hz => WF.mix HM.out HWF.out z (List.mem_filter.1 hz).1)
  have HPK : Hid (∀ W, PS W (.slice p1 n c1) s → W.cell? ⟨w.heap.size, 0, none⟩ = some (.int .i64 from0) → W.cell? ⟨w.heap.size + 1, 0, none⟩ = some (.int .i64 to0) → _) := Lib.hid (fun W h h1 h2 => pickMake_any s from0 to0 w.heap.size (w.heap.size + 1) p1 n c1 hnb W h h1 h2)
  clear hx hm hev HSUM hr0 hr1 hr2
  have HMX : Hid (Srt.Mix keyP (l.filter (Rep.within from0 to0)) (s.filter (Rep.within from0 to0))) := Lib.hid (Rep.Mix.filter HM.out _)
  have HUX : Hid (Srt.Up keyP (s.filter (Rep.within from0 to0))) := Lib.hid (Rep.Up.filter HU.out _)
  have HEX : Hid (∃ s', Srt.Mix keyP l s' ∧ s.filter (Rep.within from0 to0) = s'.filter (Rep.within from0 to0)) := Lib.hid ⟨s, HM.out, rfl⟩
  generalize s.filter (Rep.within from0 to0) = rows at *
  have hne02 : ¬ w.heap.size = w.heap.size + 2 := by omega
  have hne12 : ¬ w.heap.size + 1 = w.heap.size + 2 := by omega
  have HLE : Hid (w.heap.size ≤ w.heap.size + 2 ∧ w.heap.size + 2 < w2.heap.size) := Lib.hid ⟨by omega, hz2⟩
  generalize w.heap.size + 2 = b2 at *
  generalize w.heap.size + 1 = b1 at *
  have hne20 : ¬ b2 = w.heap.size := fun h => hne02 h.symm
  have hne21 : ¬ b2 = b1 := fun h => hne12 h.symm
  by_cases he : ev = 0
  · subst he
    have HMD : Hid (∀ (p' : Option Addr) (n' cap' : Nat) (W : World), PS W (.slice p' n' cap') rows → _) := Lib.hid (fun p' n' cap' W h => made_ok from0 to0 rows p' n' cap' W h m x0 x1 x2 x3 x4 x5 HSM.out)
    go_wp2_with fail
    go_region_held3 (fun w' => w'.cell? ⟨w.heap.size, 0, none⟩ = some (.int .i64 from0) ∧ w'.cell? ⟨b1, 0, none⟩ = some (.int .i64 to0)) (first | with_reducible exact ⟨hc0, hc1⟩ | with_reducible exact ⟨d0, d1⟩ | with_reducible exact ⟨e0, e1⟩ | go_keep) (first
      | (go_at_call 30; refine (HPK.out _ (HLS2.out.below (Below.refl _ _).drew) hc0 hc1).mono ?_; rintro e w3 ⟨v3, rfl, hown, hb3⟩; have HO3 := Lib.hid hown; have HB3 := Lib.hid ((Below.refl w2.heap.size w2).drew.trans hb3); obtain ⟨p3, c3, hv3⟩ := (LS.of_own hown Pst.cells_length (by decide)).shape; subst hv3; have d0 := (HB3.out.cell (p := ⟨w.heap.size, 0, none⟩) hz0).trans hc0; have d1 := (HB3.out.cell (p := ⟨b1, 0, none⟩) hz1).trans hc1; clear hown hb3)
      | (go_at_call 29; refine (HMD.out _ _ _ _ (ps_of_ls (LS.of_own HO3.out Pst.cells_length (by decide)) HWFR.out)).mono ?_; rintro e w4 ⟨rfl, hb4⟩; have HB43 := Lib.hid hb4; have HB42 := Lib.hid (HB3.out.trans (hb4.mono HB3.out.size)); have hr4 := (HB42.out.block (b2) hz2).trans HR2.out; have HR4 := Lib.hid hr4; have hf4 := fun j => frozen_of_row w4 (b2) j _ _ hr4; have hc4 := fun j => cell_of_row w4 (b2) j _ _ _ hr4; have hz4 := block_lt hr4; have e0 := (HB42.out.cell (p := ⟨w.heap.size, 0, none⟩) hz0).trans hc0; have e1 := (HB42.out.cell (p := ⟨b1, 0, none⟩) hz1).trans hc1; have HB4 := Lib.hid (HB2.out.trans (HB42.out.mono HB2.out.size)); clear hb4 hr4))
    go_wp2
    have hrow := ten_row HR4.out (.int .i64 from0) (.int .i64 to0) (.slice p3 rows.length c3) (.int .i64 m) (.int .i64 x0) (.int .i64 x1) (.int .i64 x2) (.int .i64 x3) (.int .i64 x4) (.int .i64 x5)
    refine bodyPost_ret (v := .tuple #[.agg #[.int .i64 from0, .int .i64 to0, (.slice p3 rows.length c3), .int .i64 m, .int .i64 x0, .int .i64 x1, .int .i64 x2, .int .i64 x3, .int .i64 x4, .int .i64 x5], .int .i64 0]) (by simp [results, Try.results9, go_sem, fun i => cell_of_row _ _ i _ _ _ hrow]) rfl ⟨_, rows, 0, m, x0, x1, x2, x3, x4, x5, HSM.out, HMX.out, HUX.out, HEX.out, ?_, ?_, .inl ⟨rfl, rfl⟩⟩
    · exact Mine.of_own (own_only HO3.out HB43.out (ten_only (.refl _ _) _ _ _ _ _ _ _ _ _ _) HLE.out.2 HB2.out.size) Pst.cells_length (by decide)
    · exact ten_below HB4.out HLE.out.1 _ _ _ _ _ _ _ _ _ _
  · have HMD : Hid (∀ (p' : Option Addr) (n' cap' : Nat) (W : World), PS W (.slice p' n' cap') rows → _) := Lib.hid (fun p' n' cap' W h => made_bad from0 to0 rows p' n' cap' W h ev m x0 x1 x2 x3 x4 x5 HSM.out he)
    go_wp2_with fail
    go_region_held3 (fun w' => w'.cell? ⟨w.heap.size, 0, none⟩ = some (.int .i64 from0) ∧ w'.cell? ⟨b1, 0, none⟩ = some (.int .i64 to0)) (first | with_reducible exact ⟨hc0, hc1⟩ | with_reducible exact ⟨d0, d1⟩ | with_reducible exact ⟨e0, e1⟩ | go_keep) (first
      | (go_at_call 30; refine (HPK.out _ (HLS2.out.below (Below.refl _ _).drew) hc0 hc1).mono ?_; rintro e w3 ⟨v3, rfl, hown, hb3⟩; have HO3 := Lib.hid hown; have HB3 := Lib.hid ((Below.refl w2.heap.size w2).drew.trans hb3); obtain ⟨p3, c3, hv3⟩ := (LS.of_own hown Pst.cells_length (by decide)).shape; subst hv3; have d0 := (HB3.out.cell (p := ⟨w.heap.size, 0, none⟩) hz0).trans hc0; have d1 := (HB3.out.cell (p := ⟨b1, 0, none⟩) hz1).trans hc1; clear hown hb3)
      | (go_at_call 29; refine (HMD.out _ _ _ _ (ps_of_ls (LS.of_own HO3.out Pst.cells_length (by decide)) HWFR.out)).mono ?_; rintro e w4 ⟨rfl, hb4⟩; have HB43 := Lib.hid hb4; have HB42 := Lib.hid (HB3.out.trans (hb4.mono HB3.out.size)); have hr4 := (HB42.out.block (b2) hz2).trans HR2.out; have HR4 := Lib.hid hr4; have hf4 := fun j => frozen_of_row w4 (b2) j _ _ hr4; have hc4 := fun j => cell_of_row w4 (b2) j _ _ _ hr4; have hz4 := block_lt hr4; have e0 := (HB42.out.cell (p := ⟨w.heap.size, 0, none⟩) hz0).trans hc0; have e1 := (HB42.out.cell (p := ⟨b1, 0, none⟩) hz1).trans hc1; have HB4 := Lib.hid (HB2.out.trans (HB42.out.mono HB2.out.size)); clear hb4 hr4))
    go_wp2
    have hrow := ten_row HR4.out (.int .i64 0) (.int .i64 0) (.slice none 0 0) (.int .i64 0) (.int .i64 0) (.int .i64 0) (.int .i64 0) (.int .i64 0) (.int .i64 0) (.int .i64 0)
    refine bodyPost_ret (v := .tuple #[.agg #[.int .i64 0, .int .i64 0, .slice none 0 0, .int .i64 0, .int .i64 0, .int .i64 0, .int .i64 0, .int .i64 0, .int .i64 0, .int .i64 0], .int .i64 ev]) (by simp [results, Try.results9, go_sem, fun i => cell_of_row _ _ i _ _ _ hrow]) rfl ⟨.slice p3 rows.length c3, rows, ev, m, x0, x1, x2, x3, x4, x5, HSM.out, HMX.out, HUX.out, HEX.out, ?_, ?_, .inr ⟨he, rfl⟩⟩
    · exact Mine.of_own (own_only HO3.out HB43.out (ten_only (.refl _ _) _ _ _ _ _ _ _ _ _ _) HLE.out.2 HB2.out.size) Pst.cells_length (by decide)
    · exact ten_below HB4.out HLE.out.1 _ _ _ _ _ _ _ _ _ _
end Go.Proofs.Ytolfekbhlfjniaa

set_option linter.unusedVariables false
set_option linter.unusedSimpArgs false
namespace Go.Proofs.Ytolfekbhlfjniaa
open Go.RowKit

theorem rAlike_any (x y : Pst) (w : World) : Calls Try.prog 45 #[.agg #[.int .i64 x.d, .int .u64 x.t, .int .i64 x.s, .int .i64 x.k, .int .i64 x.a0, .int .i64 x.a1, .int .i64 x.a2, .int .i64 x.a3, .int .i64 x.a4, .int .i64 x.a5], .agg #[.int .i64 y.d, .int .u64 y.t, .int .i64 y.s, .int .i64 y.k, .int .i64 y.a0, .int .i64 y.a1, .int .i64 y.a2, .int .i64 y.a3, .int .i64 y.a4, .int .i64 y.a5]] w fun e w' => e = .returned (.bool (Rep.alike x y)) ∧ Below w.heap.size w w' := by
  have H : Hid (Rep.alike x y = (decide (x.t = y.t) && decide (x.s = y.s))) := Lib.hid rfl
  go_enter Try.func45, Try.ntmps45
  by_cases h0 : x.t = y.t
  · by_cases h1 : x.s = y.s <;> (go_wp2; go_ret; exact ⟨ret_bool (by rw [H.out]; simp [h0, h1]), ((Below.refl w.heap.size w).alloc (Nat.le_refl _) _).alloc (by simp) _⟩)
  · go_wp2; go_ret; exact ⟨ret_bool (by rw [H.out]; simp [h0]), ((Below.refl w.heap.size w).alloc (Nat.le_refl _) _).alloc (by simp) _⟩

set_option maxRecDepth 4000 in
set_option maxHeartbeats 2000000 in
theorem rFine_any (l : List Pst) (bv : Bool) (hbv : bv = true ↔ Rep.FineP l) (p : Option Addr) (n cap : Nat) (w : World) (hs : PS w (.slice p n cap) l) :
    Calls Try.prog 15 #[.slice p n cap] w fun e w' => e = .returned (.bool bv) ∧ Below w.heap.size w w' := by
  have HPS := Lib.hid hs; have HBV := Lib.hid hbv; have HWF := Lib.hid (ps_wf hs); have HN := Lib.hid (ps_len hs).1
  have hn1 := (ps_len hs).2.1
  have hn2 := (ps_len hs).2.2
  clear hs hbv
  go_enter Try.func15, Try.ntmps15
  go_wp2
  go_loopw [3] (fun i wr => ∃ k : Nat, k ≤ n ∧ i = .int .i64 k ∧ Below w.heap.size w wr ∧ (∀ z ∈ l.take k, z.may = true) ∧ ∀ (i j : Nat) (x y : Pst), j < i → i < k → l[i]? = some x → l[j]? = some y → Rep.alike x y = false) (fun i _ => n - (intOf i).toNat)
  case atStart => exact ⟨0, Nat.zero_le _, rfl, Below.refl _ _, fun z hz => absurd hz (by simp), fun i j x y hi hk => absurd hk (by omega)⟩
  case round =>
    obtain ⟨k, hk, rfl, hbw, hmay, hno⟩ := hrel
    have HMM := Lib.hid hmay; have HNO := Lib.hid hno; have HBW := Lib.hid hbw
    clear hmay hno
    by_cases hlt : k < n
    · obtain ⟨x, hx⟩ : ∃ x, l[k]? = some x := ⟨_, List.getElem?_eq_getElem (by have := HN.out; omega)⟩
      have HX := Lib.hid hx
      have HU := Lib.hid (u64_bd (HWF.out x (List.mem_of_getElem? hx)).2.1)
      obtain ⟨q, hq⟩ : ∃ q, x.may = q := ⟨_, rfl⟩
      have HQ := Lib.hid hq
      have HM : Hid (∀ W, Calls Try.prog 46 #[.agg #[.int .i64 x.d, .int .u64 x.t, .int .i64 x.s, .int .i64 x.k, .int .i64 x.a0, .int .i64 x.a1, .int .i64 x.a2, .int .i64 x.a3, .int .i64 x.a4, .int .i64 x.a5]] W fun e w' => e = .returned (.bool q) ∧ Below W.heap.size W w') := Lib.hid (fun W => by
        have := rMay_any x.d x.t x.s x.k x.a0 x.a1 x.a2 x.a3 x.a4 x.a5 HU.out.1 HU.out.2 W
        rw [show Post.may x.d x.t x.s x.k [x.a0, x.a1, x.a2, x.a3, x.a4, x.a5] = q from hq] at this
        exact this)
      clear hx hq hbw
      go_wp2
      go_loopw [4] (fun i wq => ∃ j : Nat, j ≤ k ∧ i = .int .i64 j ∧ Below w.heap.size w wq ∧ ∀ (j' : Nat) (y : Pst), j' < j → l[j']? = some y → Rep.alike x y = false) (fun i _ => k - (intOf i).toNat)
      case atStart => exact ⟨0, Nat.zero_le _, rfl, HBW.out, fun j y hj => absurd hj (by omega)⟩
      case round =>
        obtain ⟨j, hj, rfl, hbq, hnj⟩ := hrel
        have HBQ := Lib.hid hbq; have HNJ := Lib.hid hnj
        clear hnj
        obtain ⟨b, o, rfl, hbl, hat⟩ := ps_at (HPS.out.below hbq) HX.out
        unfold PAt at hat
        obtain ⟨c0, c1, c2, c3, c4, c5, c6, c7, c8, c9⟩ := hat
        by_cases hjk : j < k
        · obtain ⟨y, hy⟩ : ∃ y, l[j]? = some y := ⟨_, List.getElem?_eq_getElem (by have := HN.out; omega)⟩
          have HY := Lib.hid hy
          obtain ⟨b2, o2, e2, hb2, hat⟩ := ps_at (HPS.out.below hbq) hy
          injection e2 with e2
          injection e2 with e2 e3
          subst e2; subst e3
          unfold PAt at hat
          obtain ⟨d0, d1, d2, d3, d4, d5, d6, d7, d8, d9⟩ := hat
          obtain ⟨q2, hq2⟩ : ∃ q2, Rep.alike x y = q2 := ⟨_, rfl⟩
          have HQ2 := Lib.hid hq2
          have HAL : Hid (∀ W, Calls Try.prog 45 #[.agg #[.int .i64 x.d, .int .u64 x.t, .int .i64 x.s, .int .i64 x.k, .int .i64 x.a0, .int .i64 x.a1, .int .i64 x.a2, .int .i64 x.a3, .int .i64 x.a4, .int .i64 x.a5], .agg #[.int .i64 y.d, .int .u64 y.t, .int .i64 y.s, .int .i64 y.k, .int .i64 y.a0, .int .i64 y.a1, .int .i64 y.a2, .int .i64 y.a3, .int .i64 y.a4, .int .i64 y.a5]] W fun e w' => e = .returned (.bool q2) ∧ Below W.heap.size W w') := Lib.hid (fun W => by
            have := rAlike_any x y W
            rw [hq2] at this
            exact this)
          have hjn : (j : Int) < (n : Int) := by omega
          have hL := @Later.cell
          clear hy hq2 hbq
          cases q2
          all_goals
            go_wp2
            refine wp_region_later (by kernel_rfl) (by kernel_rfl) ?_
            repeat (go_big_quiet_step (first | (go_at_call 45; with_reducible exact later_call (HAL.out _))))
            refine wpQuiet_nil ?_
            rintro w2 ⟨u, rfl⟩
            go_wp2
          · go_roundw
            case rel =>
              refine ⟨j + 1, by omega, by go_num, HBQ.out.trans (u.prop.mono HBQ.out.size), fun j' y' h1 h2 => ?_⟩
              rcases (by omega : j' < j ∨ j' = j) with h | h
              · exact HNJ.out j' y' h h2
              · subst h
                rw [HY.out] at h2
                injection h2 with h2
                rw [← h2]; exact HQ2.out
            case measure => simp [intOf]; omega
          · go_ret
            refine ⟨ret_bool ?_, HBQ.out.trans (u.prop.mono HBQ.out.size)⟩
            cases hbv : bv
            · rfl
            · have := (HBV.out.1 hbv).2 k j x y hjk HX.out HY.out
              rw [HQ2.out] at this
              cases this
        · obtain rfl : j = k := by omega
          clear hbq
          go_wp2_with fail
          refine (HM.out _).mono ?_
          rintro e w3 ⟨rfl, hb3⟩
          have HB3 := Lib.hid (HBQ.out.trans (hb3.mono HBQ.out.size))
          clear hb3 c0 c1 c2 c3 c4 c5 c6 c7 c8 c9
          cases q
          · go_wp2
            go_ret
            refine ⟨ret_bool ?_, HB3.out⟩
            cases hbv : bv
            · rfl
            · have := (HBV.out.1 hbv).1 x (List.mem_of_getElem? HX.out)
              rw [HQ.out] at this
              cases this
          · go_wp2
            go_roundw
            case rel =>
              refine ⟨j + 1, by omega, by go_num, HB3.out, fun z hz => ?_, fun i j' x' y' h1 h2 h3 h4 => ?_⟩
              · rw [List.take_add_one, HX.out] at hz
                rcases List.mem_append.1 hz with hz | hz
                · exact HMM.out z hz
                · have : z = x := by simpa using hz
                  rw [this]; exact HQ.out
              · rcases (by omega : i < j ∨ i = j) with h | h
                · exact HNO.out i j' x' y' h1 h h3 h4
                · subst h
                  rw [HX.out] at h3
                  injection h3 with h3
                  rw [← h3]
                  exact HNJ.out j' y' h1 h4
            case measure => simp [intOf]; omega
    · obtain rfl : k = n := by omega
      have HF : Hid (bv = true) := Lib.hid (HBV.out.2 ⟨fun z hz => HMM.out z (by rw [List.take_of_length_le (by have := HN.out; omega)]; exact hz), fun i j x y h1 h2 h3 => HNO.out i j x y h1 (by have := (List.getElem?_eq_some_iff.1 h2).1; have := HN.out; omega) h2 h3⟩)
      go_wp2
      go_ret
      exact ⟨ret_bool HF.out.symm, HBW.out⟩

set_option maxRecDepth 4000 in
set_option maxHeartbeats 1000000 in
theorem rThose_any (l : List Pst) (a b : Int) (p : Option Addr) (n cap : Nat) (hnb : n ≤ 1000000) (w : World) (hs : PS w (.slice p n cap) l) :
    Calls Try.prog 34 #[.int .i64 a, .int .i64 b, .slice p n cap] w
      fun e w' => ∃ v' s', e = .returned v' ∧ Srt.Mix keyP (l.filter (Rep.within a b)) s' ∧ Srt.Up keyP s' ∧ w'.ownsRow w.heap.size 38 10 v' s'.length (encL Pst.cells s') ∧ Below w.heap.size w w' := by
  have HPS := Lib.hid hs; have HN := Lib.hid (ps_len hs).1; have HWF := Lib.hid (ps_wf hs)
  have hn1 := (ps_len hs).2.1
  have hn2 := (ps_len hs).2.2
  clear hs
  have HQW : Hid (∀ x, Rep.within a b x = (decide (a ≤ x.d) && decide (x.d ≤ b))) := Lib.hid (fun x => rfl)
  generalize hq : Rep.within a b = q at *
  go_enter Try.func34, Try.ntmps34
  go_wp2
  go_loopw [8, 7] (fun i v wr => ∃ k : Nat, k ≤ n ∧ i = .int .i64 k ∧ wr.ownsRow w.heap.size 38 10 v ((l.take k).filter q).length (encL Pst.cells ((l.take k).filter q)) ∧ Below w.heap.size w wr) (fun i _ _ => n - (intOf i).toNat)
  case atStart => exact ⟨0, Nat.zero_le _, rfl, World.ownsRow_nil _ _ _ _, Below.refl _ _⟩
  case round =>
    obtain ⟨k, hk, rfl, hown, hbw⟩ := hrel
    have HO := Lib.hid hown; have HBW := Lib.hid hbw
    have HLE : Hid (((l.take k).filter q).length ≤ n) := Lib.hid (Nat.le_trans (List.length_filter_le _ _) (by rw [List.length_take]; omega))
    clear hown
    by_cases hlt : k < n
    · obtain ⟨x, hx⟩ : ∃ x, l[k]? = some x := ⟨_, List.getElem?_eq_getElem (by have := HN.out; omega)⟩
      obtain ⟨bb, o, rfl, hbl, hat⟩ := ps_at (HPS.out.below hbw) hx
      have HT : Hid ((l.take (k + 1)).filter q = (l.take k).filter q ++ (if q x then [x] else [])) := Lib.hid (by
        rw [List.take_add_one, hx, List.filter_append]
        simp [List.filter_cons])
      unfold PAt at hat
      obtain ⟨c0, c1, c2, c3, c4, c5, c6, c7, c8, c9⟩ := hat
      have hqx := HQW.out x
      clear hx hbw
      by_cases h0 : a ≤ x.d
      · by_cases h1 : x.d ≤ b
        · have hy : q x = true := by rw [hqx]; simp [h0, h1]
          rw [hy] at HT
          have HT2 : Hid ((l.take (k + 1)).filter q = (l.take k).filter q ++ [x]) := Lib.hid (by rw [HT.out]; simp)
          clear hy hqx HT
          go_wp2_with (at_builtin; refine wpList_append_recs elemP rfl _ _ rfl w.heap.size _ _ _ rfl (recs_below HO.out ((Below.refl _ _).alloc (Nat.le_refl _) _)) _ [x] rfl (row_one (x := x) (new_rowW _ _ _ rfl) rfl Pst.cells_length (by decide)) (by have := HLE.out; simp <;> omega) (by have := HBW.out.size; simp <;> omega) ?_; intro v2 w2 hown2 hg2 hn2 hat2)
          have HO2 : Hid (w2.ownsRow w.heap.size 38 10 v2 ((l.take (k + 1)).filter q).length (encL Pst.cells ((l.take (k + 1)).filter q))) := Lib.hid (by
            rw [HT2.out, List.length_append]
            exact hown2)
          have HB2 := Lib.hid ((HBW.out.alloc HBW.out.size _).grown hg2 (by have := HBW.out.size; simp <;> omega) (fun b hb => (recs_base HO.out hb).1))
          clear hown2 hg2 hn2 hat2
          go_wp2
          go_roundw
          case rel => exact ⟨k + 1, by omega, by go_num, HO2.out, HB2.out⟩
          case measure => simp [intOf]; omega
        · have hy : q x = false := by rw [hqx]; simp [h1]
          rw [hy] at HT
          have HT2 : Hid ((l.take (k + 1)).filter q = (l.take k).filter q) := Lib.hid (by rw [HT.out]; simp)
          clear hy hqx HT
          go_wp2
          go_roundw
          case rel => exact ⟨k + 1, by omega, by go_num, by rw [HT2.out]; exact HO.out, HBW.out⟩
          case measure => simp [intOf]; omega
      · have hy : q x = false := by rw [hqx]; simp [h0]
        rw [hy] at HT
        have HT2 : Hid ((l.take (k + 1)).filter q = (l.take k).filter q) := Lib.hid (by rw [HT.out]; simp)
        clear hy hqx HT
        go_wp2
        go_roundw
        case rel => exact ⟨k + 1, by omega, by go_num, by rw [HT2.out]; exact HO.out, HBW.out⟩
        case measure => simp [intOf]; omega
    · obtain rfl : k = n := by omega
      have hown := HO.out
      rw [List.take_of_length_le (by have := HN.out; omega)] at hown
      have hls := LS.of_own hown Pst.cells_length (by decide)
      obtain ⟨p1, c1, hv⟩ := hls.shape
      subst hv
      have HS : Hid (∀ W, LS Pst.cells 10 W (.slice p1 (l.filter q).length c1) (l.filter q) → _) := Lib.hid (fun W h => rSort_any (l.filter q) (fun z hz => HWF.out z (List.mem_filter.1 hz).1) p1 _ c1 (Nat.le_trans (List.length_filter_le _ _) (by have := HN.out; omega)) W h)
      have HLS := Lib.hid hls
      clear hown hbw hls
      generalize (l.filter q).length = m at *
      go_wp2_with fail
      refine (HS.out _ HLS.out).mono ?_
      rintro e w2 ⟨v2, s2, rfl, hm, hu, hown, hb2⟩
      have HM := Lib.hid hm; have HU := Lib.hid hu; have HB2 := Lib.hid (HBW.out.trans (hb2.mono HBW.out.size))
      have HO2 : Hid (w2.ownsRow w.heap.size 38 10 v2 s2.length (encL Pst.cells s2)) := Lib.hid (own_lower hown HBW.out.size)
      clear hm hu hown hb2
      go_wp2
      go_ret
      exact ⟨_, s2, rfl, HM.out, HU.out, HO2.out, HB2.out⟩
end Go.Proofs.Ytolfekbhlfjniaa

set_option linter.unusedVariables false
set_option linter.unusedSimpArgs false
namespace Go.Proofs.Ytolfekbhlfjniaa
open Go.RowKit

theorem own_two {w3 w4 W7 W : World} {base b0 e n m g : Nat} {v : Value} {xs : List Value} (h : w3.ownsRow base e n v m xs) (hb : Below w3.heap.size w3 w4) (h7 : Only w3.heap.size w4 W7) (ho : Only g W7 W) (hg : g < base) (h0 : b0 ≤ base) : W.ownsRow b0 e n v m xs := by
  refine own_lower (recs_keep h fun b hb' hlt => ?_) h0
  have := recs_base h hb'
  have h1 := hb.size
  have h2 := h7.size
  rw [ho.block b (by omega) (by omega), h7.block b (by omega) (by omega), hb.block b hlt]
theorem rMakeR_bad (from0 to0 : Int) (l : List Pst) (p : Option Addr) (n cap : Nat) (hbad : ¬ (Rep.days from0 to0 = true ∧ Rep.FineP l)) (w : World) (hs : PS w (.slice p n cap) l) :
    Calls Try.prog 10 #[.int .i64 from0, .int .i64 to0, .slice p n cap] w fun e w' => e = .returned (.tuple #[.agg #[.int .i64 0, .int .i64 0, .slice none 0 0, .int .i64 0, .int .i64 0, .int .i64 0, .int .i64 0, .int .i64 0, .int .i64 0, .int .i64 0], .int .i64 2]) ∧ Below w.heap.size w w' := by
  have HPS := Lib.hid hs
  clear hs
  by_cases hd : Rep.days from0 to0 = true
  · have HF : Hid (∀ W, PS W (.slice p n cap) l → _) := Lib.hid (fun W h => rFine_any l false (by
      constructor
      · intro h; cases h
      · intro h; exact absurd ⟨hd, h⟩ hbad) p n cap W h)
    have HD : Hid (∀ W, Calls Try.prog 33 #[.int .i64 from0, .int .i64 to0] W fun e w' => e = .returned (.bool true) ∧ W = w') := Lib.hid (fun W => by have := rDays_any from0 to0 W; rwa [hd] at this)
    clear hbad hd
    go_enter Try.func10, Try.ntmps10
    go_wp2_with fail
    refine (HD.out _).mono ?_
    rintro e w2 ⟨rfl, rfl⟩
    go_wp2_with fail
    refine (HF.out _ (HPS.out.below ((Below.refl _ _).alloc (Nat.le_refl _) _))).mono ?_
    rintro e w2 ⟨rfl, hb2⟩
    have hr2 := (hb2.block w.heap.size (by simp)).trans (new_row w (.cells #[.int .i64 0, .int .i64 0, .slice none 0 0, .int .i64 0, .int .i64 0, .int .i64 0, .int .i64 0, .int .i64 0, .int .i64 0, .int .i64 0] 27 (0, 0)) _ rfl)
    have HB2 := Lib.hid (((Below.refl w.heap.size w).alloc (Nat.le_refl _) _).trans (hb2.mono (by simp)))
    have hz := block_lt hr2
    have hc2 := fun j => cell_of_row w2 w.heap.size j _ _ _ hr2
    have hf2 := fun j => frozen_of_row w2 w.heap.size j _ _ hr2
    have HR2 := Lib.hid hr2
    clear hr2 hb2
    go_wp2
    have hrow := ten_row HR2.out (.int .i64 0) (.int .i64 0) (.slice none 0 0) (.int .i64 0) (.int .i64 0) (.int .i64 0) (.int .i64 0) (.int .i64 0) (.int .i64 0) (.int .i64 0)
    refine bodyPost_ret (v := .tuple #[.agg #[.int .i64 0, .int .i64 0, .slice none 0 0, .int .i64 0, .int .i64 0, .int .i64 0, .int .i64 0, .int .i64 0, .int .i64 0, .int .i64 0], .int .i64 2]) (by simp [results, Try.results10, go_sem, fun i => cell_of_row _ _ i _ _ _ hrow]) rfl ⟨rfl, ?_⟩
    exact ten_below HB2.out (Nat.le_refl _) _ _ _ _ _ _ _ _ _ _
  · have HD : Hid (∀ W, Calls Try.prog 33 #[.int .i64 from0, .int .i64 to0] W fun e w' => e = .returned (.bool false) ∧ W = w') := Lib.hid (fun W => by have := rDays_any from0 to0 W; rw [show Rep.days from0 to0 = false by simpa using hd] at this; exact this)
    clear hbad hd
    go_enter Try.func10, Try.ntmps10
    go_wp2_with fail
    refine (HD.out _).mono ?_
    rintro e w2 ⟨rfl, rfl⟩
    have HR2 := Lib.hid (new_row w (.cells #[.int .i64 0, .int .i64 0, .slice none 0 0, .int .i64 0, .int .i64 0, .int .i64 0, .int .i64 0, .int .i64 0, .int .i64 0, .int .i64 0] 27 (0, 0)) _ rfl)
    go_wp2
    first
      | (go_ret; exact ⟨rfl, (Below.refl _ _).alloc (Nat.le_refl _) _⟩)
      | (refine bodyPost_ret (v := .tuple #[.agg #[.int .i64 0, .int .i64 0, .slice none 0 0, .int .i64 0, .int .i64 0, .int .i64 0, .int .i64 0, .int .i64 0, .int .i64 0, .int .i64 0], .int .i64 2]) (by simp [results, Try.results10, go_sem]) rfl ⟨rfl, (Below.refl _ _).alloc (Nat.le_refl _) _⟩)

set_option maxRecDepth 4000 in
set_option maxHeartbeats 1000000 in
theorem rMakeR_ok (from0 to0 : Int) (l : List Pst) (p : Option Addr) (n cap : Nat) (hnb : n ≤ 1000000) (hd : Rep.days from0 to0 = true) (hfine : Rep.FineP l) (w : World) (hs : PS w (.slice p n cap) l) :
    Calls Try.prog 10 #[.int .i64 from0, .int .i64 to0, .slice p n cap] w fun e w' => ∃ (v : Value) (rows : List Pst) (ev m x0 x1 x2 x3 x4 x5 : Int), Post.sums rows = ⟨ev, m, [x0, x1, x2, x3, x4, x5]⟩ ∧
      Srt.Mix keyP (l.filter (Rep.within from0 to0)) rows ∧ Srt.Up keyP rows ∧ Mine Pst.cells 10 w' w.heap.size v rows ∧ Below w.heap.size w w' ∧ (ev = 0 ∧ e = .returned (.tuple #[.agg #[.int .i64 from0, .int .i64 to0, v, .int .i64 m, .int .i64 x0, .int .i64 x1, .int .i64 x2, .int .i64 x3, .int .i64 x4, .int .i64 x5], .int .i64 0]) ∨ ¬ ev = 0 ∧ e = .returned (.tuple #[.agg #[.int .i64 0, .int .i64 0, .slice none 0 0, .int .i64 0, .int .i64 0, .int .i64 0, .int .i64 0, .int .i64 0, .int .i64 0, .int .i64 0], .int .i64 ev])) := by
  have HPS := Lib.hid hs; have HWF := Lib.hid (ps_wf hs)
  have HT := Lib.hid (fun W h => rThose_any l from0 to0 p n cap hnb W h)
  have HF : Hid (∀ W, PS W (.slice p n cap) l → _) := Lib.hid (fun W h => rFine_any l true ⟨fun _ => hfine, fun _ => rfl⟩ p n cap W h)
  have HD : Hid (∀ W, Calls Try.prog 33 #[.int .i64 from0, .int .i64 to0] W fun e w' => e = .returned (.bool true) ∧ W = w') := Lib.hid (fun W => by have := rDays_any from0 to0 W; rwa [hd] at this)
  clear hs hd hfine
  go_enter Try.func10, Try.ntmps10
  go_wp2_with fail
  refine (HD.out _).mono ?_
  rintro e w2 ⟨rfl, rfl⟩
  go_wp2_with fail
  refine (HF.out _ (HPS.out.below ((Below.refl _ _).alloc (Nat.le_refl _) _))).mono ?_
  rintro e w2 ⟨rfl, hb2⟩
  have hr2 := (hb2.block w.heap.size (by simp)).trans (new_row w (.cells #[.int .i64 0, .int .i64 0, .slice none 0 0, .int .i64 0, .int .i64 0, .int .i64 0, .int .i64 0, .int .i64 0, .int .i64 0, .int .i64 0] 27 (0, 0)) _ rfl)
  have HB2 := Lib.hid (((Below.refl w.heap.size w).alloc (Nat.le_refl _) _).trans (hb2.mono (by simp)))
  have hz := block_lt hr2
  have HR2 := Lib.hid hr2
  clear hr2 hb2
  go_wp2_with fail
  refine (HT.out _ (HPS.out.below HB2.out)).mono ?_
  rintro e w3 ⟨v, rows, rfl, hm, hu, hown, hb3⟩
  have HM := Lib.hid hm; have HU := Lib.hid hu; have HOW := Lib.hid hown
  have HW3 : Hid (WF rows) := Lib.hid (fun z hz => HWF.out z (List.mem_filter.1 (hm.symm.mem hz)).1)
  have hr3 := (hb3.block w.heap.size hz).trans HR2.out
  have HB3 := Lib.hid (HB2.out.trans (hb3.mono HB2.out.size))
  have hz3 := block_lt hr3
  have hmine := Mine.of_own (own_lower hown HB2.out.size) Pst.cells_length (by decide)
  obtain ⟨p1, c1, hv⟩ := (hmine.ls Pst.cells_length (by decide)).shape
  subst hv
  have HMN := Lib.hid hmine
  have HR3 := Lib.hid hr3
  have HSUM := Lib.hid (Post.sums_fine rows)
  obtain ⟨x0, x1, x2, x3, x4, x5, hx⟩ := Post.six_of HSUM.out.1
  obtain ⟨m, hmm⟩ : ∃ m, (Post.sums rows).m = m := ⟨_, rfl⟩
  obtain ⟨ev, hev⟩ : ∃ m, (Post.sums rows).e = m := ⟨_, rfl⟩
  have HSM : Hid (Post.sums rows = ⟨ev, m, [x0, x1, x2, x3, x4, x5]⟩) := Lib.hid (by rw [← hx, ← hmm, ← hev])
  clear hx hmm hev HSUM hm hu hown hb3 hmine hr3
  have HS : Hid (∀ W, LS Pst.cells 10 W (.slice p1 rows.length c1) rows → _) := Lib.hid (fun W h => rSum_any rows p1 rows.length c1 rfl W (ps_of_ls h HW3.out) ev m x0 x1 x2 x3 x4 x5 HSM.out)
  have HLS := Lib.hid (HMN.out.ls Pst.cells_length (by decide))
  have hfin : ∀ W, Below w3.heap.size w3 W → Mine Pst.cells 10 W w.heap.size (.slice p1 rows.length c1) rows := fun W h => HMN.out.below h
  have HFIN := Lib.hid hfin
  clear hfin
  generalize hnn : rows.length = nn at *
  go_wp2_with fail
  refine (HS.out _ (HLS.out.alloc _)).mono ?_
  rintro e w4 ⟨rfl, hb4⟩
  have hr4 := (hb4.block w.heap.size (by simp; omega)).trans (row_alloc HR3.out _)
  have hr5 := (hb4.block w3.heap.size (by simp)).trans (new_row w3 _ _ rfl)
  have HB43 := Lib.hid (((Below.refl w3.heap.size w3).alloc (Nat.le_refl _) _).trans (hb4.mono (by simp)))
  have HB4 := Lib.hid (HB3.out.trans (HB43.out.mono HB3.out.size))
  have hz4 := block_lt hr4
  have hz5 := block_lt hr5
  have HR4 := Lib.hid hr4; have HR5 := Lib.hid hr5
  have hc4 := fun j => cell_of_row w4 w.heap.size j _ _ _ hr4
  have hf4 := fun j => frozen_of_row w4 w.heap.size j _ _ hr4
  have hc5 := fun j => cell_of_row w4 w3.heap.size j _ _ _ hr5
  have hf5 := fun j => frozen_of_row w4 w3.heap.size j _ _ hr5
  have hz33 : w.heap.size < w3.heap.size := hz3
  clear hr4 hr5 hb4
  by_cases he : ev = 0
  · subst he
    go_wp2
    have hO7 := (((((((Only.refl w3.heap.size w4).setCell 3 (.int .i64 m)).setCell 4 (.int .i64 x0)).setCell 5 (.int .i64 x1)).setCell 6 (.int .i64 x2)).setCell 7 (.int .i64 x3)).setCell 8 (.int .i64 x4)).setCell 9 (.int .i64 x5)
    have hr47 := (hO7.block w.heap.size hz4 (by omega)).trans HR4.out
    have hrow := row_alloc (ten_row hr47 (.int .i64 from0) (.int .i64 to0) (.slice p1 nn c1) (.int .i64 m) (.int .i64 x0) (.int .i64 x1) (.int .i64 x2) (.int .i64 x3) (.int .i64 x4) (.int .i64 x5)) (.cells #[.int .i64 m, .int .i64 x0, .int .i64 x1, .int .i64 x2, .int .i64 x3, .int .i64 x4, .int .i64 x5] 25 (0, 0))
    refine bodyPost_ret (v := .tuple #[.agg #[.int .i64 from0, .int .i64 to0, (.slice p1 nn c1), .int .i64 m, .int .i64 x0, .int .i64 x1, .int .i64 x2, .int .i64 x3, .int .i64 x4, .int .i64 x5], .int .i64 0]) (by simp [results, Try.results10, go_sem, fun i => cell_of_row _ _ i _ _ _ hrow]) rfl ⟨.slice p1 nn c1, rows, 0, m, x0, x1, x2, x3, x4, x5, HSM.out, HM.out, HU.out, ?_, ?_, .inl ⟨rfl, rfl⟩⟩
    · exact Mine.of_own (own_two HOW.out HB43.out hO7 ((ten_only (.refl _ _) _ _ _ _ _ _ _ _ _ _).alloc _) hz HB2.out.size) Pst.cells_length (by decide)
    · exact balloc (ten_below (Only.below HB4.out (Nat.le_of_lt hz33) (Nat.le_of_lt hz4) hO7) (Nat.le_refl _) _ _ _ _ _ _ _ _ _ _) _
  · go_wp2
    have hrow := row_alloc (ten_row HR4.out (.int .i64 0) (.int .i64 0) (.slice none 0 0) (.int .i64 0) (.int .i64 0) (.int .i64 0) (.int .i64 0) (.int .i64 0) (.int .i64 0) (.int .i64 0)) (.cells #[.int .i64 m, .int .i64 x0, .int .i64 x1, .int .i64 x2, .int .i64 x3, .int .i64 x4, .int .i64 x5] 25 (0, 0))
    refine bodyPost_ret (v := .tuple #[.agg #[.int .i64 0, .int .i64 0, .slice none 0 0, .int .i64 0, .int .i64 0, .int .i64 0, .int .i64 0, .int .i64 0, .int .i64 0, .int .i64 0], .int .i64 ev]) (by simp [results, Try.results10, go_sem, fun i => cell_of_row _ _ i _ _ _ hrow]) rfl ⟨.slice p1 nn c1, rows, ev, m, x0, x1, x2, x3, x4, x5, HSM.out, HM.out, HU.out, ?_, ?_, .inr ⟨he, rfl⟩⟩
    · exact Mine.of_own (own_only HOW.out HB43.out ((ten_only (.refl _ _) _ _ _ _ _ _ _ _ _ _).alloc _) hz HB2.out.size) Pst.cells_length (by decide)
    · exact balloc (ten_below HB4.out (Nat.le_refl _) _ _ _ _ _ _ _ _ _ _) _
end Go.Proofs.Ytolfekbhlfjniaa

set_option linter.unusedVariables false
set_option linter.unusedSimpArgs false
namespace Go.Proofs.Ytolfekbhlfjniaa
open Go.RowKit

namespace Srt
variable {α : Type}
def ins (key : α → Int) (a : α) : List α → List α
  | [] => [a]
  | b :: l => if key a ≤ key b then a :: b :: l else b :: ins key a l
theorem ins_mix (key : α → Int) (a : α) (l : List α) : Mix key (a :: l) (ins key a l) := by
  induction l with
  | nil => exact Mix.refl _
  | cons b l ih =>
    unfold ins
    split
    · exact Mix.refl _
    · rename_i h
      have h1 : Mix key ([a] ++ [b]) ([b] ++ [a]) := Mix.swap (by simp; omega)
      have h2 := h1.app (Mix.refl (key := key) l)
      have h3 := (Mix.refl (key := key) [b]).app ih
      exact Mix.trans (by simpa using h2) (by simpa using h3)
theorem ins_up {key : α → Int} (a : α) (l : List α) (hl : Up key l) : Up key (ins key a l) := by
  induction l with
  | nil => exact Up.one a
  | cons b l ih =>
    obtain ⟨h1, h2⟩ := List.pairwise_cons.1 hl
    unfold ins
    split
    · rename_i h
      refine List.pairwise_cons.2 ⟨fun x hx => ?_, hl⟩
      rcases List.mem_cons.1 hx with rfl | hx
      · exact h
      · have := h1 x hx; omega
    · rename_i h
      refine List.pairwise_cons.2 ⟨fun x hx => ?_, ih h2⟩
      rcases List.mem_cons.1 ((ins_mix key a l).symm.mem hx) with rfl | hx
      · omega
      · exact h1 x hx
def isort (key : α → Int) (l : List α) : List α := l.foldr (ins key) []
theorem isort_up (key : α → Int) (l : List α) : Up key (isort key l) := by
  induction l with
  | nil => exact Up.nil
  | cons a l ih => exact ins_up a _ ih
theorem isort_mix (key : α → Int) (l : List α) : Mix key l (isort key l) := by
  induction l with
  | nil => exact Mix.refl _
  | cons a l ih => exact Mix.trans (y := a :: isort key l) (by simpa using (Mix.refl (key := key) [a]).app ih) (ins_mix key a _)
end Srt

theorem make_fit (from0 to0 : Int) (l : List Pst) (p : Option Addr) (n cap : Nat) (hnb : n ≤ 1000000) (hd : Rep.days from0 to0 = true) (hfine : Rep.FineP l) (rows : List Pst) (hm : Srt.Mix keyP (l.filter (Rep.within from0 to0)) rows) (hu : Srt.Up keyP rows)
    (ev m x0 x1 x2 x3 x4 x5 : Int) (hsum : Post.sums rows = ⟨ev, m, [x0, x1, x2, x3, x4, x5]⟩) (w : World) (hs : PS w (.slice p n cap) l) :
    Calls Try.prog 9 #[.int .i64 from0, .int .i64 to0, .slice p n cap] w fun e w' => ∃ v : Value, Mine Pst.cells 10 w' w.heap.size v rows ∧ Below w.heap.size w w' ∧ (ev = 0 ∧ e = .returned (.tuple #[.agg #[.int .i64 from0, .int .i64 to0, v, .int .i64 m, .int .i64 x0, .int .i64 x1, .int .i64 x2, .int .i64 x3, .int .i64 x4, .int .i64 x5], .int .i64 0]) ∨ ¬ ev = 0 ∧ e = .returned (.tuple #[.agg #[.int .i64 0, .int .i64 0, .slice none 0 0, .int .i64 0, .int .i64 0, .int .i64 0, .int .i64 0, .int .i64 0, .int .i64 0, .int .i64 0], .int .i64 ev])) := by
  refine (make_ok from0 to0 l p n cap hnb hd hfine w hs).mono ?_
  rintro e w' ⟨v, rows', ev', m', y0, y1, y2, y3, y4, y5, h1, h2, h3, _, h4, h5, h6⟩
  obtain rfl : rows = rows' := hu.only _ _ h3 (hm.symm.trans h2)
  rw [hsum] at h1
  injection h1 with e1 e2 e3
  simp only [List.cons.injEq, and_true] at e3
  obtain ⟨e3, e4, e5, e6, e7, e8⟩ := e3
  subst e1 e2 e3 e4 e5 e6 e7 e8
  exact ⟨v, h4, h5, h6⟩
theorem rMakeR_fit (from0 to0 : Int) (l : List Pst) (p : Option Addr) (n cap : Nat) (hnb : n ≤ 1000000) (hd : Rep.days from0 to0 = true) (hfine : Rep.FineP l) (rows : List Pst) (hm : Srt.Mix keyP (l.filter (Rep.within from0 to0)) rows) (hu : Srt.Up keyP rows)
    (ev m x0 x1 x2 x3 x4 x5 : Int) (hsum : Post.sums rows = ⟨ev, m, [x0, x1, x2, x3, x4, x5]⟩) (w : World) (hs : PS w (.slice p n cap) l) :
    Calls Try.prog 10 #[.int .i64 from0, .int .i64 to0, .slice p n cap] w fun e w' => ∃ v : Value, Mine Pst.cells 10 w' w.heap.size v rows ∧ Below w.heap.size w w' ∧ (ev = 0 ∧ e = .returned (.tuple #[.agg #[.int .i64 from0, .int .i64 to0, v, .int .i64 m, .int .i64 x0, .int .i64 x1, .int .i64 x2, .int .i64 x3, .int .i64 x4, .int .i64 x5], .int .i64 0]) ∨ ¬ ev = 0 ∧ e = .returned (.tuple #[.agg #[.int .i64 0, .int .i64 0, .slice none 0 0, .int .i64 0, .int .i64 0, .int .i64 0, .int .i64 0, .int .i64 0, .int .i64 0, .int .i64 0], .int .i64 ev])) := by
  refine (rMakeR_ok from0 to0 l p n cap hnb hd hfine w hs).mono ?_
  rintro e w' ⟨v, rows', ev', m', y0, y1, y2, y3, y4, y5, h1, h2, h3, h4, h5, h6⟩
  obtain rfl : rows = rows' := hu.only _ _ h3 (hm.symm.trans h2)
  rw [hsum] at h1
  injection h1 with e1 e2 e3
  simp only [List.cons.injEq, and_true] at e3
  obtain ⟨e3, e4, e5, e6, e7, e8⟩ := e3
  subst e1 e2 e3 e4 e5 e6 e7 e8
  exact ⟨v, h4, h5, h6⟩
end Go.Proofs.Ytolfekbhlfjniaa

set_option linter.unusedVariables false
set_option linter.unusedSimpArgs false
namespace Go.Proofs.Ytolfekbhlfjniaa
open Go.RowKit

namespace Rep
def MayP (a b : Int) (l : List Pst) (m : Int) (x : List Int) : Prop := days a b = true ∧ FineP l ∧ (∀ z ∈ l, within a b z = true) ∧ Srt.Up keyP l ∧ Post.sums l = ⟨0, m, x⟩
theorem filter_all {a b : Int} {l : List Pst} (h : ∀ z ∈ l, within a b z = true) : l.filter (within a b) = l := List.filter_eq_self.2 h
theorem ris_up {s : List Pst} (hw : WF s) (h : RisP s) : Srt.Up keyP s := by
  have h1 : ∀ (d i : Nat) (x y : Pst), s[i]? = some x → s[i + d + 1]? = some y → keyP x < keyP y := by
    intro d
    induction d with
    | zero => exact fun i x y hx hy => (less_keyP (hw x (List.mem_of_getElem? hx)) (hw y (List.mem_of_getElem? hy))).1 (h.2 i x y hx hy)
    | succ d ih =>
      intro i x y hx hy
      obtain ⟨z, hz⟩ : ∃ z, s[i + d + 1]? = some z := ⟨_, List.getElem?_eq_getElem (by have := (List.getElem?_eq_some_iff.1 hy).1; omega)⟩
      have e1 := ih i x z hx hz
      have e2 := (less_keyP (hw z (List.mem_of_getElem? hz)) (hw y (List.mem_of_getElem? hy))).1 (h.2 (i + d + 1) z y hz hy)
      omega
  unfold Srt.Up
  rw [List.pairwise_iff_getElem]
  intro i j hi hj hij
  have := h1 (j - i - 1) i _ _ (List.getElem?_eq_getElem hi) (by rw [show i + (j - i - 1) + 1 = j from by omega]; exact List.getElem?_eq_getElem hj)
  omega
theorem mayP_ris {a b : Int} {l : List Pst} {m : Int} {x : List Int} (hw : WF l) : MayP a b l m x ↔ (∀ z ∈ l, within a b z = true) ∧ days a b = true ∧ RisP l ∧ Post.sums l = ⟨0, m, x⟩ := by
  constructor
  · rintro ⟨h1, h2, h3, h4, h5⟩
    exact ⟨h3, h1, (ris_fine hw h4).2 h2, h5⟩
  · rintro ⟨h3, h1, h2, h5⟩
    have h4 := ris_up hw h2
    exact ⟨h1, (ris_fine hw h4).1 h2, h3, h4, h5⟩
end Rep

theorem mayF_any (x : Pst) (a b : Int) (g : Nat) (w : World) (ha : w.cell? ⟨g, 0, none⟩ = some (.int .i64 a)) (hb : w.cell? ⟨g, 1, none⟩ = some (.int .i64 b)) :
    Calls Try.prog 59 #[.agg #[.int .i64 x.d, .int .u64 x.t, .int .i64 x.s, .int .i64 x.k, .int .i64 x.a0, .int .i64 x.a1, .int .i64 x.a2, .int .i64 x.a3, .int .i64 x.a4, .int .i64 x.a5], .pointer (some ⟨g, 0, none⟩)] w fun e w' => e = .returned (.bool (!Rep.within a b x)) ∧ Below w.heap.size w w' := by
  have hga := cell_blockW ha
  simp only at hga
  have H := Lib.hid (fun W => within_any x a b W)
  go_enter Try.func59, Try.ntmps59
  go_wp2_with fail
  refine (H.out _).mono ?_
  rintro e w1 ⟨rfl, hb1⟩
  go_wp2
  go_ret
  exact ⟨rfl, ((Below.refl w.heap.size w).alloc (Nat.le_refl _) _).trans (hb1.mono (by simp))⟩

set_option maxHeartbeats 1000000 in
theorem idxF_any (l : List Pst) (a b : Int) (g : Nat) (bv : Bool) (hbv : bv = true ↔ ∃ x ∈ l, Rep.within a b x = false) (p : Option Addr) (n cap : Nat) (w : World) (hs : PS w (.slice p n cap) l) (ha : w.cell? ⟨g, 0, none⟩ = some (.int .i64 a)) (hb : w.cell? ⟨g, 1, none⟩ = some (.int .i64 b)) :
    Calls Try.prog 86 #[.slice p n cap, .func (.func 59) #[] #[.pointer (some ⟨g, 0, none⟩)]] w
      fun e w' => (∃ j : Int, e = .returned (.int .i64 j) ∧ decide (0 ≤ j) = bv) ∧ Below w.heap.size w w' := by
  have HPS := Lib.hid hs; have HN := Lib.hid (ps_len hs).1
  have hn1 := (ps_len hs).2.1
  have hn2 := (ps_len hs).2.2
  have HA := Lib.hid ha; have HB := Lib.hid hb; have HBV := Lib.hid hbv
  have hga := cell_blockW ha
  simp only at hga
  clear hs ha hb hbv
  go_enter Try.func86, Try.ntmps86
  go_wp2
  go_loopw [8] (fun i wr => ∃ k : Nat, k ≤ n ∧ i = .int .i64 k ∧ (∀ (j : Nat) (x : Pst), j < k → l[j]? = some x → Rep.within a b x = true) ∧ Below w.heap.size w wr) (fun i _ => n - (intOf i).toNat)
  case atStart => exact ⟨0, Nat.zero_le _, rfl, fun j x h => absurd h (Nat.not_lt_zero _), Below.refl _ _⟩
  case round =>
    obtain ⟨k, hk, rfl, hall, hbw⟩ := hrel
    have HALL := Lib.hid hall; have HBW := Lib.hid hbw
    clear hall
    by_cases hlt : k < n
    · obtain ⟨x, hx⟩ : ∃ x, l[k]? = some x := ⟨_, List.getElem?_eq_getElem (by have := HN.out; omega)⟩
      obtain ⟨bb, o, rfl, hbl, hat⟩ := ps_at (HPS.out.below hbw) hx
      have HX := Lib.hid hx
      have HW : Hid (∀ W, W.cell? ⟨g, 0, none⟩ = some (.int .i64 a) → W.cell? ⟨g, 1, none⟩ = some (.int .i64 b) → Calls Try.prog 59 #[.agg #[.int .i64 x.d, .int .u64 x.t, .int .i64 x.s, .int .i64 x.k, .int .i64 x.a0, .int .i64 x.a1, .int .i64 x.a2, .int .i64 x.a3, .int .i64 x.a4, .int .i64 x.a5], .pointer (some ⟨g, 0, none⟩)] W fun e w' => e = .returned (.bool (!Rep.within a b x)) ∧ Below W.heap.size W w') := Lib.hid (fun W h1 h2 => mayF_any x a b g W h1 h2)
      unfold PAt at hat
      obtain ⟨c0, c1, c2, c3, c4, c5, c6, c7, c8, c9⟩ := hat
      clear hx hbw
      go_wp2_with fail
      refine (HW.out _ ((HBW.out.cell (p := ⟨g, 0, none⟩) hga).trans HA.out) ((HBW.out.cell (p := ⟨g, 1, none⟩) hga).trans HB.out)).mono ?_
      rintro e w1 ⟨rfl, hb1⟩
      have HBW1 := Lib.hid (HBW.out.trans (hb1.mono HBW.out.size))
      clear hb1 c0 c1 c2 c3 c4 c5 c6 c7 c8 c9
      obtain ⟨y, hy⟩ : ∃ y, Rep.within a b x = y := ⟨_, rfl⟩
      rw [hy]
      have HY := Lib.hid hy
      clear hy
      cases y
      · go_wp2
        go_ret
        refine ⟨⟨k, rfl, ?_⟩, HBW1.out⟩
        have := HBV.out.2 ⟨x, List.mem_of_getElem? HX.out, HY.out⟩
        rw [this]; simp
      · go_wp2
        go_roundw
        case rel =>
          refine ⟨k + 1, by omega, by go_num, fun j z hj hz => ?_, HBW1.out⟩
          rcases Nat.lt_or_ge j k with h | h
          · exact HALL.out j z h hz
          · obtain rfl : j = k := by omega
            have := HX.out.symm.trans hz
            injection this with this
            rw [← this]
            exact HY.out
        case measure => simp [intOf]; omega
    · obtain rfl : k = n := by omega
      clear hbw
      go_wp2
      go_ret
      refine ⟨⟨-1, rfl, ?_⟩, HBW.out⟩
      cases bv
      · rfl
      · obtain ⟨x, hx, h1⟩ := HBV.out.1 rfl
        obtain ⟨j, hj⟩ := List.getElem?_of_mem hx
        have := HALL.out j x (by have := (List.getElem?_eq_some_iff.1 hj).1; have := HN.out; omega) hj
        rw [h1] at this
        cases this

theorem hasF_any (l : List Pst) (a b : Int) (g : Nat) (bv : Bool) (hbv : bv = true ↔ ∃ x ∈ l, Rep.within a b x = false) (p : Option Addr) (n cap : Nat) (w : World) (hs : PS w (.slice p n cap) l) (ha : w.cell? ⟨g, 0, none⟩ = some (.int .i64 a)) (hb : w.cell? ⟨g, 1, none⟩ = some (.int .i64 b)) :
    Calls Try.prog 58 #[.slice p n cap, .func (.func 59) #[] #[.pointer (some ⟨g, 0, none⟩)]] w
      fun e w' => e = .returned (.bool bv) ∧ Below w.heap.size w w' := by
  have H := Lib.hid (idxF_any l a b g bv hbv p n cap w hs ha hb)
  clear hs ha hb hbv
  go_enter Try.func58, Try.ntmps58
  go_wp2_with fail
  refine H.out.mono ?_
  rintro e w1 ⟨⟨j, rfl, hj⟩, hb1⟩
  go_wp2
  go_ret
  exact ⟨rfl, hb1⟩

theorem rMay17_any (a b : Int) (l : List Pst) (p : Option Addr) (n cap : Nat) (hnb : n ≤ 1000000) (m x0 x1 x2 x3 x4 x5 : Int) (bv : Bool) (hbv : bv = true ↔ Rep.MayP a b l m [x0, x1, x2, x3, x4, x5]) (w : World) (hs : PS w (.slice p n cap) l) :
    Calls Try.prog 22 #[.agg #[.int .i64 a, .int .i64 b, (.slice p n cap), .int .i64 m, .int .i64 x0, .int .i64 x1, .int .i64 x2, .int .i64 x3, .int .i64 x4, .int .i64 x5]] w fun e w' => e = .returned (.bool bv) ∧ Below w.heap.size w w' := by
  have HPS := Lib.hid hs
  have hb0 := (Below.refl w.heap.size w).alloc (Nat.le_refl _) (.cells #[.int .i64 a, .int .i64 b, (.slice p n cap), .int .i64 m, .int .i64 x0, .int .i64 x1, .int .i64 x2, .int .i64 x3, .int .i64 x4, .int .i64 x5] 27 (0, 0))
  have hr0 := new_row w (.cells #[.int .i64 a, .int .i64 b, (.slice p n cap), .int .i64 m, .int .i64 x0, .int .i64 x1, .int .i64 x2, .int .i64 x3, .int .i64 x4, .int .i64 x5] 27 (0, 0)) _ rfl
  have hc0 := fun j => cell_of_row _ w.heap.size j _ _ _ hr0
  have HB0 := Lib.hid hb0
  have HR0 := Lib.hid hr0
  by_cases hd : Rep.days a b = true ∧ Rep.FineP l
  · obtain ⟨s, hsd⟩ : ∃ s, s = Srt.isort keyP l := ⟨_, rfl⟩
    have hm := Srt.isort_mix keyP l
    have hu := Srt.isort_up keyP l
    rw [← hsd] at hm hu
    have hmf := Rep.Mix.filter hm (Rep.within a b)
    have huf := Rep.Up.filter hu (Rep.within a b)
    have HSUM := Post.sums_fine (s.filter (Rep.within a b))
    obtain ⟨y0, y1, y2, y3, y4, y5, hx⟩ := Post.six_of HSUM.1
    obtain ⟨m', hmm⟩ : ∃ m', (Post.sums (s.filter (Rep.within a b))).m = m' := ⟨_, rfl⟩
    obtain ⟨ev, hev⟩ : ∃ m', (Post.sums (s.filter (Rep.within a b))).e = m' := ⟨_, rfl⟩
    have HSM : Post.sums (s.filter (Rep.within a b)) = ⟨ev, m', [y0, y1, y2, y3, y4, y5]⟩ := by rw [← hx, ← hmm, ← hev]
    have HB := Lib.hid (fun W h => rMakeR_fit a b l p n cap hnb hd.1 hd.2 _ hmf huf ev m' y0 y1 y2 y3 y4 y5 HSM W h)
    have HQ : Hid (bv = true ↔ ev = 0 ∧ (m' = m ∧ y0 = x0 ∧ y1 = x1 ∧ y2 = x2 ∧ y3 = x3 ∧ y4 = x4 ∧ y5 = x5) ∧ s.filter (Rep.within a b) = l) := Lib.hid (by
      rw [hbv]
      constructor
      · rintro ⟨h1, h2, h3, h4, h5⟩
        have e : s.filter (Rep.within a b) = l := by
          have e1 : Srt.Mix keyP (l.filter (Rep.within a b)) l := by rw [Rep.filter_all h3]; exact Srt.Mix.refl _
          exact huf.only _ _ h4 (hmf.symm.trans e1)
        rw [e, h5] at HSM
        injection HSM with e1 e2 e3
        simp only [List.cons.injEq, and_true] at e3
        exact ⟨e1.symm, ⟨e2.symm, e3.1.symm, e3.2.1.symm, e3.2.2.1.symm, e3.2.2.2.1.symm, e3.2.2.2.2.1.symm, e3.2.2.2.2.2.symm⟩, e⟩
      · rintro ⟨rfl, ⟨rfl, rfl, rfl, rfl, rfl, rfl, rfl⟩, e⟩
        refine ⟨hd.1, hd.2, ?_, e ▸ huf, by rw [← e]; exact HSM⟩
        intro z hz
        rw [← e] at hz
        exact (List.mem_filter.1 hz).2)
    clear hx hmm hev hsd hmf huf HSM HSUM hbv hd hs hb0
    generalize s.filter (Rep.within a b) = rows at *
    go_enter Try.func22, Try.ntmps22
    go_wp2_with fail
    refine (HB.out _ (HPS.out.below HB0.out)).mono ?_
    rintro e w1 ⟨v1, hmine, hb1, hcase⟩
    have hls := hmine.ls Pst.cells_length (by decide)
    obtain ⟨p1, c1, hv⟩ := hls.shape
    subst hv
    have hr1 := (hb1.block w.heap.size (by simp)).trans HR0.out
    have HB1 := Lib.hid (HB0.out.trans (hb1.mono HB0.out.size))
    have HLS := Lib.hid hls
    have HR1 := Lib.hid hr1
    clear hc0 hr0
    rcases hcase with ⟨he, rfl⟩ | ⟨he, rfl⟩
    · have hb2 := balloc HB1.out (.cells #[.int .i64 a, .int .i64 b, (.slice p1 rows.length c1), .int .i64 m', .int .i64 y0, .int .i64 y1, .int .i64 y2, .int .i64 y3, .int .i64 y4, .int .i64 y5] 27 (0, 0))
      have hrA := row_alloc hr1 (.cells #[.int .i64 a, .int .i64 b, (.slice p1 rows.length c1), .int .i64 m', .int .i64 y0, .int .i64 y1, .int .i64 y2, .int .i64 y3, .int .i64 y4, .int .i64 y5] 27 (0, 0))
      have hrB := new_row w1 (.cells #[.int .i64 a, .int .i64 b, (.slice p1 rows.length c1), .int .i64 m', .int .i64 y0, .int .i64 y1, .int .i64 y2, .int .i64 y3, .int .i64 y4, .int .i64 y5] 27 (0, 0)) _ rfl
      have HB2 := Lib.hid hb2
      have HSA := Lib.hid (HLS.out.alloc (.cells #[.int .i64 a, .int .i64 b, (.slice p1 rows.length c1), .int .i64 m', .int .i64 y0, .int .i64 y1, .int .i64 y2, .int .i64 y3, .int .i64 y4, .int .i64 y5] 27 (0, 0)))
      have HSB := Lib.hid ((ls_of_ps (HPS.out.below HB1.out)).1.alloc (.cells #[.int .i64 a, .int .i64 b, (.slice p1 rows.length c1), .int .i64 m', .int .i64 y0, .int .i64 y1, .int .i64 y2, .int .i64 y3, .int .i64 y4, .int .i64 y5] 27 (0, 0)))
      have hcA := fun j => cell_of_row _ w.heap.size j _ _ _ hrA
      have hcB := fun j => cell_of_row _ w1.heap.size j _ _ _ hrB
      clear hmine hls hr1 hb1 hb2 hrA hrB
      go_wp2_with fail
      refine (rSameR_any a b a b m' y0 y1 y2 y3 y4 y5 m x0 x1 x2 x3 x4 x5 rows l p1 p rows.length n c1 cap bv (by rw [HQ.out]; simp [he]) _ HSA.out HSB.out).mono ?_
      rintro e w2 ⟨rfl, hb2⟩
      have HB3 := Lib.hid (HB2.out.trans (hb2.mono HB2.out.size))
      clear hb2
      go_wp2
      go_ret
      exact ⟨rfl, HB3.out⟩
    · obtain rfl : bv = false := by cases bv; rfl; exact absurd (HQ.out.1 rfl).1 he
      have hc1 := fun j => cell_of_row w1 w.heap.size j _ _ _ hr1
      have hb2 := balloc HB1.out (.cells #[.int .i64 0, .int .i64 0, .slice none 0 0, .int .i64 0, .int .i64 0, .int .i64 0, .int .i64 0, .int .i64 0, .int .i64 0, .int .i64 0] 27 (0, 0))
      clear hmine hls hr1 hb1
      go_wp2
      go_ret
      exact ⟨rfl, hb2⟩
  · obtain rfl : bv = false := by cases bv; rfl; exact absurd ⟨(hbv.1 rfl).1, (hbv.1 rfl).2.1⟩ hd
    have HB := Lib.hid (fun W h => rMakeR_bad a b l p n cap hd W h)
    clear hbv hd hs hb0 hr0
    go_enter Try.func22, Try.ntmps22
    go_wp2_with fail
    refine (HB.out _ (HPS.out.below HB0.out)).mono ?_
    rintro e w1 ⟨rfl, hb1⟩
    have HB1 := Lib.hid (HB0.out.trans (hb1.mono HB0.out.size))
    have hb2 := balloc HB1.out (.cells #[.int .i64 0, .int .i64 0, .slice none 0 0, .int .i64 0, .int .i64 0, .int .i64 0, .int .i64 0, .int .i64 0, .int .i64 0, .int .i64 0] 27 (0, 0))
    clear hb1
    go_wp2
    go_ret
    exact ⟨rfl, hb2⟩
set_option maxRecDepth 4000 in
set_option maxHeartbeats 1000000 in
theorem pMay_any (a b : Int) (l : List Pst) (p : Option Addr) (n cap : Nat) (m x0 x1 x2 x3 x4 x5 : Int) (bv : Bool) (hbv : bv = true ↔ Rep.MayP a b l m [x0, x1, x2, x3, x4, x5]) (w : World) (hs : PS w (.slice p n cap) l) :
    Calls Try.prog 23 #[.agg #[.int .i64 a, .int .i64 b, (.slice p n cap), .int .i64 m, .int .i64 x0, .int .i64 x1, .int .i64 x2, .int .i64 x3, .int .i64 x4, .int .i64 x5]] w fun e w' => e = .returned (.bool bv) ∧ Below w.heap.size w w' := by
  have HPS := Lib.hid hs
  have hwf := ps_wf hs
  have hb0 := (Below.refl w.heap.size w).alloc (Nat.le_refl _) (.cells #[.int .i64 a, .int .i64 b, (.slice p n cap), .int .i64 m, .int .i64 x0, .int .i64 x1, .int .i64 x2, .int .i64 x3, .int .i64 x4, .int .i64 x5] 27 (0, 0))
  have hr0 := new_row w (.cells #[.int .i64 a, .int .i64 b, (.slice p n cap), .int .i64 m, .int .i64 x0, .int .i64 x1, .int .i64 x2, .int .i64 x3, .int .i64 x4, .int .i64 x5] 27 (0, 0)) _ rfl
  have hc0 := fun j => cell_of_row _ w.heap.size j _ _ _ hr0
  have HB0 := Lib.hid hb0
  have HR0 := Lib.hid hr0
  obtain ⟨o, ho⟩ : ∃ o, (l.any fun z => !Rep.within a b z) = o := ⟨_, rfl⟩
  obtain ⟨d, hd⟩ : ∃ d, Rep.days a b = d := ⟨_, rfl⟩
  obtain ⟨r, hr⟩ : ∃ r : Bool, r = true ↔ Rep.RisP l := ⟨by classical exact decide (Rep.RisP l), by simp⟩
  have hso := Post.sums_fine l
  obtain ⟨y0, y1, y2, y3, y4, y5, hx⟩ := Post.six_of hso.1
  obtain ⟨m', hmm⟩ : ∃ m', (Post.sums l).m = m' := ⟨_, rfl⟩
  obtain ⟨ev, hev⟩ : ∃ m', (Post.sums l).e = m' := ⟨_, rfl⟩
  have hsm : Post.sums l = ⟨ev, m', [y0, y1, y2, y3, y4, y5]⟩ := by rw [← hx, ← hmm, ← hev]
  have ho' : o = true ↔ ∃ x ∈ l, Rep.within a b x = false := by rw [← ho]; simp
  have HQ : Hid (bv = true ↔ o = false ∧ d = true ∧ r = true ∧ ev = 0 ∧ (m' = m ∧ y0 = x0 ∧ y1 = x1 ∧ y2 = x2 ∧ y3 = x3 ∧ y4 = x4 ∧ y5 = x5)) := Lib.hid (by
    rw [hbv, Rep.mayP_ris hwf, hd, hr, hsm]
    have h1 : o = false ↔ ∀ z ∈ l, Rep.within a b z = true := by rw [← ho]; simp
    rw [h1]
    constructor
    · rintro ⟨g1, g2, g3, g4⟩
      injection g4 with e1 e2 e3
      simp only [List.cons.injEq, and_true] at e3
      exact ⟨g1, g2, g3, e1, e2, e3⟩
    · rintro ⟨g1, g2, g3, rfl, rfl, rfl, rfl, rfl, rfl, rfl, rfl⟩
      exact ⟨g1, g2, g3, rfl⟩)
  have HHAS := Lib.hid (fun W h h1 h2 => hasF_any l a b w.heap.size o ho' p n cap W h h1 h2)
  have HD : Hid (∀ W, Calls Try.prog 27 #[.int .i64 a, .int .i64 b] W fun e w' => e = .returned (.bool d) ∧ W = w') := Lib.hid (fun W => by have := pDays_any a b W; rwa [hd] at this)
  have HRS := Lib.hid (fun W h => rising_any l r hr p n cap W h)
  have HMB := Lib.hid (fun W h => made_bad a b l p n cap W h ev m' y0 y1 y2 y3 y4 y5 hsm)
  have HMO := Lib.hid (fun W h (he : ev = 0) => made_ok a b l p n cap W h m' y0 y1 y2 y3 y4 y5 (he ▸ hsm))
  clear hx hmm hev hso hsm hbv hd hs hb0 ho ho' hr
  go_enter Try.func23, Try.ntmps23
  go_wp2_with fail
  refine (HHAS.out _ (HPS.out.below HB0.out) (hc0 0) (hc0 1)).mono ?_
  rintro e w1 ⟨rfl, hb1⟩
  have hr1 := (hb1.block w.heap.size (block_lt HR0.out)).trans HR0.out
  have hc1 := fun j => cell_of_row _ w.heap.size j _ _ _ hr1
  have HB1 := Lib.hid (HB0.out.trans (hb1.mono HB0.out.size))
  have HR1 := Lib.hid hr1
  clear hb1 hr1 hr0 hc0
  cases o
  · go_wp2_with fail
    refine (HD.out _).mono ?_
    rintro e w2 ⟨rfl, rfl⟩
    cases d
    · obtain rfl : bv = false := by cases bv; rfl; exact absurd (HQ.out.1 rfl).2.1 (by simp)
      go_wp2
      go_ret
      exact ⟨rfl, HB1.out⟩
    · go_wp2_with fail
      refine (HRS.out _ (HPS.out.below HB1.out)).mono ?_
      rintro e w2 ⟨rfl, hb2⟩
      have hr2 := (hb2.block w.heap.size (block_lt HR1.out)).trans HR1.out
      have hc2 := fun j => cell_of_row _ w.heap.size j _ _ _ hr2
      have HB2 := Lib.hid (HB1.out.trans (hb2.mono HB1.out.size))
      have HR2 := Lib.hid hr2
      clear hb2 hr2 hc1
      cases r
      · obtain rfl : bv = false := by cases bv; rfl; exact absurd (HQ.out.1 rfl).2.2.1 (by simp)
        go_wp2
        go_ret
        exact ⟨rfl, HB2.out⟩
      · by_cases he : ev = 0
        · go_wp2_with fail
          refine (HMO.out _ (HPS.out.below HB2.out) he).mono ?_
          rintro e w3 ⟨rfl, hb3⟩
          have hr3 := (hb3.block w.heap.size (block_lt HR2.out)).trans HR2.out
          have HB3 := Lib.hid (HB2.out.trans (hb3.mono HB2.out.size))
          have hb4 := balloc HB3.out (.cells #[.int .i64 a, .int .i64 b, (.slice p n cap), .int .i64 m', .int .i64 y0, .int .i64 y1, .int .i64 y2, .int .i64 y3, .int .i64 y4, .int .i64 y5] 27 (0, 0))
          have HB4 := Lib.hid hb4
          have hrA := row_alloc hr3 (.cells #[.int .i64 a, .int .i64 b, (.slice p n cap), .int .i64 m', .int .i64 y0, .int .i64 y1, .int .i64 y2, .int .i64 y3, .int .i64 y4, .int .i64 y5] 27 (0, 0))
          have hrB := new_row w3 (.cells #[.int .i64 a, .int .i64 b, (.slice p n cap), .int .i64 m', .int .i64 y0, .int .i64 y1, .int .i64 y2, .int .i64 y3, .int .i64 y4, .int .i64 y5] 27 (0, 0)) _ rfl
          have hcA := fun j => cell_of_row _ w.heap.size j _ _ _ hrA
          have hcB := fun j => cell_of_row _ w3.heap.size j _ _ _ hrB
          clear hb3 hr3 hb4 hrA hrB hc2
          obtain ⟨q, hq⟩ : ∃ q, Rep.sameT m' y0 y1 y2 y3 y4 y5 m x0 x1 x2 x3 x4 x5 = q := ⟨_, rfl⟩
          have hE1 : ∀ W, (Op.equalIn 10000 25 (.agg #[.int .i64 m', .int .i64 y0, .int .i64 y1, .int .i64 y2, .int .i64 y3, .int .i64 y4, .int .i64 y5]) (.agg #[.int .i64 m, .int .i64 x0, .int .i64 x1, .int .i64 x2, .int .i64 x3, .int .i64 x4, .int .i64 x5])).run Try.prog W = .ok q W := fun W => by rw [← hq]; exact eqInTG m' y0 y1 y2 y3 y4 y5 m x0 x1 x2 x3 x4 x5 W
          have hE2 : ∀ W, (binOp .eql 25 (.agg #[.int .i64 m', .int .i64 y0, .int .i64 y1, .int .i64 y2, .int .i64 y3, .int .i64 y4, .int .i64 y5]) (.agg #[.int .i64 m, .int .i64 x0, .int .i64 x1, .int .i64 x2, .int .i64 x3, .int .i64 x4, .int .i64 x5])).run Try.prog W = .ok (.bool q) W := fun W => by rw [← hq]; exact eqTG m' y0 y1 y2 y3 y4 y5 m x0 x1 x2 x3 x4 x5 W
          have hG := guardTe
          have hbq : bv = q := by
            rw [Bool.eq_iff_iff, HQ.out, ← hq, Rep.sameT_iff]
            simp [he]
          subst hbq
          clear hq
          cases bv <;> (go_wp2; go_ret; exact ⟨rfl, HB4.out⟩)
        · obtain rfl : bv = false := by cases bv; rfl; exact absurd (HQ.out.1 rfl).2.2.2.1 he
          go_wp2_with fail
          refine (HMB.out _ (HPS.out.below HB2.out) he).mono ?_
          rintro e w3 ⟨rfl, hb3⟩
          have HB3 := Lib.hid (HB2.out.trans (hb3.mono HB2.out.size))
          have hb4 := balloc HB3.out (.cells #[.int .i64 0, .int .i64 0, .slice none 0 0, .int .i64 0, .int .i64 0, .int .i64 0, .int .i64 0, .int .i64 0, .int .i64 0, .int .i64 0] 27 (0, 0))
          clear hb3
          go_wp2
          go_ret
          exact ⟨rfl, hb4⟩
  · obtain rfl : bv = false := by cases bv; rfl; exact absurd (HQ.out.1 rfl).1 (by simp)
    go_wp2
    go_ret
    exact ⟨rfl, HB1.out⟩
end Go.Proofs.Ytolfekbhlfjniaa
