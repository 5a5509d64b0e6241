/- Contracts of the report: pick, made, Make. -/
import Derived.Test.YtajpggnmhkpbkaaRfw31
import Derived.Test.YtajpggnmhkpbkaaRfw27
import Derived.Test.YtajpggnmhkpbkaaRfw29
import Derived.Deep.RegionHeld3
import Derived.Deep.RegionLaw

set_option linter.unusedVariables false
set_option linter.unusedSimpArgs false
namespace Go.Proofs.Ytajpggnmhkpbkaa
open Go.RowKit

theorem own_lower {w : World} {base base' e n m : Nat} {v : Value} {xs : List Value} (h : w.ownsRow base e n v m xs) (hb : base' ≤ base) : w.ownsRow base' e n v m xs := by
  obtain ⟨h1, h2⟩ := h
  refine ⟨h1, ?_⟩
  rcases h2 with h2 | ⟨g, cap, cur, e1, hg, h3⟩
  · exact .inl h2
  · exact .inr ⟨g, cap, cur, e1, Nat.le_trans hb hg, h3⟩
theorem ten_only {w a : World} {g : Nat} (h : Only g a w) (v0 v1 v2 v3 v4 v5 v6 v7 v8 v9 : Value) : Only g a ((((((((((w.setCell ⟨g, 0, none⟩ v0).setCell ⟨g, 1, none⟩ v1).setCell ⟨g, 2, none⟩ v2).setCell ⟨g, 3, none⟩ v3).setCell ⟨g, 4, none⟩ v4).setCell ⟨g, 5, none⟩ v5).setCell ⟨g, 6, none⟩ v6).setCell ⟨g, 7, none⟩ v7).setCell ⟨g, 8, none⟩ v8).setCell ⟨g, 9, none⟩ v9) :=
  (((((((((h.setCell 0 v0).setCell 1 v1).setCell 2 v2).setCell 3 v3).setCell 4 v4).setCell 5 v5).setCell 6 v6).setCell 7 v7).setCell 8 v8).setCell 9 v9
/-- rows of one's own, where one older block alone was written -/
theorem own_only {w3 w4 W : World} {base b0 e n m g : Nat} {v : Value} {xs : List Value} (h : w3.ownsRow base e n v m xs) (hb : Below w3.heap.size w3 w4) (ho : Only g w4 W) (hg : g < base) (h0 : b0 ≤ base) : W.ownsRow b0 e n v m xs := by
  refine own_lower (recs_keep h fun b hb' hlt => ?_) h0
  have := recs_base h hb'
  rw [ho.block b (by have := hb.size; omega) (by omega), hb.block b hlt]
set_option maxRecDepth 4000 in
set_option maxHeartbeats 1000000 in
theorem pickMake_any (l : List Pst) (a b : Int) (ga gb : Nat) (p : Option Addr) (n cap : Nat) (hnb : n ≤ 1000000) (w : World) (hs : PS w (.slice p n cap) l) (ha : w.cell? ⟨ga, 0, none⟩ = some (.int .i64 a)) (hb : w.cell? ⟨gb, 0, none⟩ = some (.int .i64 b)) :
    Calls Try.prog 40 #[.slice p n cap, .func (.func 41) #[] #[.pointer (some ⟨ga, 0, none⟩), .pointer (some ⟨gb, 0, none⟩)]] w
      fun e w' => ∃ v', e = .returned v' ∧ w'.ownsRow w.heap.size 68 10 v' (l.filter (Rep.within a b)).length (encL Pst.cells (l.filter (Rep.within a b))) ∧ Below w.heap.size w w' := by
  have HPS := Lib.hid hs; have HN := Lib.hid (ps_len hs).1
  have hn1 := (ps_len hs).2.1
  have hn2 := (ps_len hs).2.2
  have HA := Lib.hid ha; have HB := Lib.hid hb
  have hga := cell_blockW ha
  have hgb := cell_blockW hb
  simp only at hga hgb
  clear hs ha hb
  generalize hq : Rep.within a b = q at *
  go_enter Try.func40, Try.ntmps40
  go_wp2
  go_loopw [10, 5] (fun i v wr => ∃ k : Nat, k ≤ n ∧ i = .int .i64 k ∧ wr.ownsRow w.heap.size 68 10 v ((l.take k).filter q).length (encL Pst.cells ((l.take k).filter q)) ∧ Below w.heap.size w wr) (fun i _ _ => n - (intOf i).toNat)
  case atStart => exact ⟨0, Nat.zero_le _, rfl, World.ownsRow_nil _ _ _ _, Below.refl _ _⟩
  case round =>
    obtain ⟨k, hk, rfl, hown, hbw⟩ := hrel
    have HO := Lib.hid hown; have HBW := Lib.hid hbw
    have HLE : Hid (((l.take k).filter q).length ≤ n) := Lib.hid (Nat.le_trans (List.length_filter_le _ _) (by rw [List.length_take]; omega))
    clear hown
    by_cases hlt : k < n
    · obtain ⟨x, hx⟩ : ∃ x, l[k]? = some x := ⟨_, List.getElem?_eq_getElem (by have := HN.out; omega)⟩
      obtain ⟨bb, o, rfl, hbl, hat⟩ := ps_at (HPS.out.below hbw) hx
      have HT : Hid ((l.take (k + 1)).filter q = (l.take k).filter q ++ (if q x then [x] else [])) := Lib.hid (by
        rw [List.take_add_one, hx, List.filter_append]
        simp [List.filter_cons])
      have HW : Hid (∀ W, W.cell? ⟨ga, 0, none⟩ = some (.int .i64 a) → W.cell? ⟨gb, 0, none⟩ = some (.int .i64 b) → Calls Try.prog 41 #[.agg #[.int .i64 x.d, .int .u64 x.t, .int .i64 x.s, .int .i64 x.k, .int .i64 x.a0, .int .i64 x.a1, .int .i64 x.a2, .int .i64 x.a3, .int .i64 x.a4, .int .i64 x.a5], .pointer (some ⟨ga, 0, none⟩), .pointer (some ⟨gb, 0, none⟩)] W fun e w' => e = .returned (.bool (q x)) ∧ Below W.heap.size W w') := Lib.hid (fun W h1 h2 => by rw [← hq]; exact mk1_any x a b ga gb W h1 h2)
      unfold PAt at hat
      obtain ⟨c0, c1, c2, c3, c4, c5, c6, c7, c8, c9⟩ := hat
      have hb0 := (Below.refl wr.heap.size wr).alloc (Nat.le_refl _) (.cells #[.int .i64 x.d, .int .u64 x.t, .int .i64 x.s, .int .i64 x.k, .int .i64 x.a0, .int .i64 x.a1, .int .i64 x.a2, .int .i64 x.a3, .int .i64 x.a4, .int .i64 x.a5] 68 (0, 0))
      clear hx hbw
      go_wp2_with fail
      refine (HW.out _ ((((HBW.out.alloc HBW.out.size (.cells #[.int .i64 x.d, .int .u64 x.t, .int .i64 x.s, .int .i64 x.k, .int .i64 x.a0, .int .i64 x.a1, .int .i64 x.a2, .int .i64 x.a3, .int .i64 x.a4, .int .i64 x.a5] 68 (0, 0)))).cell (p := ⟨ga, 0, none⟩) hga).trans HA.out) ((((HBW.out.alloc HBW.out.size (.cells #[.int .i64 x.d, .int .u64 x.t, .int .i64 x.s, .int .i64 x.k, .int .i64 x.a0, .int .i64 x.a1, .int .i64 x.a2, .int .i64 x.a3, .int .i64 x.a4, .int .i64 x.a5] 68 (0, 0)))).cell (p := ⟨gb, 0, none⟩) hgb).trans HB.out)).mono ?_
      rintro e w1 ⟨rfl, hb1⟩
      have hrow := (hb1.block wr.heap.size (by simp)).trans (new_row wr (.cells #[.int .i64 x.d, .int .u64 x.t, .int .i64 x.s, .int .i64 x.k, .int .i64 x.a0, .int .i64 x.a1, .int .i64 x.a2, .int .i64 x.a3, .int .i64 x.a4, .int .i64 x.a5] 68 (0, 0)) _ rfl)
      have HB1 := Lib.hid (hb0.trans (hb1.mono (by simp)))
      have HBW1 := Lib.hid (HBW.out.trans (HB1.out.mono HBW.out.size))
      have HO1 := Lib.hid (recs_below HO.out HB1.out)
      clear hb1 hb0 c0 c1 c2 c3 c4 c5 c6 c7 c8 c9
      generalize wr.heap.size = gp at *
      have hcp := fun j => cell_of_row w1 gp j _ _ _ hrow
      obtain ⟨y, hy⟩ : ∃ y, q x = y := ⟨_, rfl⟩
      rw [hy] at HT ⊢
      cases y
      · have HT2 : Hid ((l.take (k + 1)).filter q = (l.take k).filter q) := Lib.hid (by rw [HT.out]; simp)
        clear hy hrow
        go_wp2
        go_roundw
        case rel => exact ⟨k + 1, by omega, by go_num, by rw [HT2.out]; exact HO1.out, HBW1.out⟩
        case measure => simp [intOf]; omega
      · have HT2 : Hid ((l.take (k + 1)).filter q = (l.take k).filter q ++ [x]) := Lib.hid (by rw [HT.out]; simp)
        clear hy hrow
        go_wp2_with (at_builtin; refine wpList_append_recs elemP rfl _ _ rfl w.heap.size _ _ _ rfl (recs_below HO1.out ((Below.refl _ _).alloc (Nat.le_refl _) _)) _ [x] rfl (row_one (x := x) (new_rowW _ _ _ rfl) rfl Pst.cells_length (by decide)) (by have := HLE.out; simp <;> omega) (by have := HBW1.out.size; simp <;> omega) ?_; intro v2 w2 hown2 hg2 hn2 hat2)
        have HO2 : Hid (w2.ownsRow w.heap.size 68 10 v2 ((l.take (k + 1)).filter q).length (encL Pst.cells ((l.take (k + 1)).filter q))) := Lib.hid (by
          rw [HT2.out, List.length_append]
          exact hown2)
        have HB2 := Lib.hid ((HBW1.out.alloc HBW1.out.size _).grown hg2 (by have := HBW1.out.size; simp <;> omega) (fun b hb => (recs_base HO1.out hb).1))
        clear hown2 hg2 hn2 hat2
        go_wp2
        go_roundw
        case rel => exact ⟨k + 1, by omega, by go_num, HO2.out, HB2.out⟩
        case measure => simp [intOf]; omega
    · obtain rfl : k = n := by omega
      have hown := HO.out
      rw [List.take_of_length_le (by have := HN.out; omega)] at hown
      have HO1 := Lib.hid hown
      clear hown hbw
      go_wp2
      go_ret
      exact ⟨_, rfl, HO1.out, HBW.out⟩

set_option maxRecDepth 4000 in
set_option maxHeartbeats 1000000 in
theorem made_bad (from0 to0 : Int) (l : List Pst) (p : Option Addr) (n cap : Nat) (w : World) (hs : PS w (.slice p n cap) l) (ev m x0 x1 x2 x3 x4 x5 : Int) (hsum : Post.sums l = ⟨ev, m, [x0, x1, x2, x3, x4, x5]⟩) (hev : ¬ ev = 0) :
    Calls Try.prog 39 #[.int .i64 from0, .int .i64 to0, .slice p n cap] w fun e w' => e = .returned (.tuple #[.agg #[.int .i64 0, .int .i64 0, .slice none 0 0, .int .i64 0, .int .i64 0, .int .i64 0, .int .i64 0, .int .i64 0, .int .i64 0, .int .i64 0], .int .i64 ev]) ∧ Below w.heap.size w w' := by
  have HS := Lib.hid (fun W h => sum_any l p n cap (ps_len hs).1 W h ev m x0 x1 x2 x3 x4 x5 hsum)
  have HPS := Lib.hid hs
  clear hs hsum
  go_enter Try.func39, Try.ntmps39
  go_wp2_with fail
  refine (HS.out _ (HPS.out.below ((Below.refl _ _).alloc (Nat.le_refl _) _))).mono ?_
  rintro e w1 ⟨rfl, hb1⟩
  have hrow := (hb1.block w.heap.size (by simp)).trans (new_row w (.cells #[.int .i64 0, .int .i64 0, .slice none 0 0, .int .i64 0, .int .i64 0, .int .i64 0, .int .i64 0, .int .i64 0, .int .i64 0, .int .i64 0] 43 (0, 0)) _ rfl)
  have HB1 := Lib.hid (((Below.refl w.heap.size w).alloc (Nat.le_refl _) _).trans (hb1.mono (by simp)))
  have hz := block_lt hrow
  have HR := Lib.hid hrow
  have hc := fun j => cell_of_row w1 w.heap.size j _ _ _ hrow
  have hf := fun j => frozen_of_row w1 w.heap.size j _ _ hrow
  clear hb1 hrow
  go_wp2
  have hrow := row_alloc (ten_row HR.out (.int .i64 0) (.int .i64 0) (.slice none 0 0) (.int .i64 0) (.int .i64 0) (.int .i64 0) (.int .i64 0) (.int .i64 0) (.int .i64 0) (.int .i64 0)) (.cells #[.int .i64 m, .int .i64 x0, .int .i64 x1, .int .i64 x2, .int .i64 x3, .int .i64 x4, .int .i64 x5] 41 (0, 0))
  refine bodyPost_ret (v := .tuple #[.agg #[.int .i64 0, .int .i64 0, .slice none 0 0, .int .i64 0, .int .i64 0, .int .i64 0, .int .i64 0, .int .i64 0, .int .i64 0, .int .i64 0], .int .i64 ev]) (by simp [results, Try.results39, go_sem, fun i => cell_of_row _ _ i _ _ _ hrow]) rfl ⟨rfl, ?_⟩
  exact balloc (ten_below HB1.out (Nat.le_refl _) _ _ _ _ _ _ _ _ _ _) _

set_option maxRecDepth 4000 in
set_option maxHeartbeats 1000000 in
theorem made_ok (from0 to0 : Int) (l : List Pst) (p : Option Addr) (n cap : Nat) (w : World) (hs : PS w (.slice p n cap) l) (m x0 x1 x2 x3 x4 x5 : Int) (hsum : Post.sums l = ⟨0, m, [x0, x1, x2, x3, x4, x5]⟩) :
    Calls Try.prog 39 #[.int .i64 from0, .int .i64 to0, .slice p n cap] w fun e w' => e = .returned (.tuple #[.agg #[.int .i64 from0, .int .i64 to0, (.slice p n cap), .int .i64 m, .int .i64 x0, .int .i64 x1, .int .i64 x2, .int .i64 x3, .int .i64 x4, .int .i64 x5], .int .i64 0]) ∧ Below w.heap.size w w' := by
  have HS := Lib.hid (fun W h => sum_any l p n cap (ps_len hs).1 W h 0 m x0 x1 x2 x3 x4 x5 hsum)
  have HPS := Lib.hid hs
  clear hs hsum
  go_enter Try.func39, Try.ntmps39
  go_wp2_with fail
  refine (HS.out _ (HPS.out.below ((Below.refl _ _).alloc (Nat.le_refl _) _))).mono ?_
  rintro e w1 ⟨rfl, hb1⟩
  have hrow := (hb1.block w.heap.size (by simp)).trans (new_row w (.cells #[.int .i64 0, .int .i64 0, .slice none 0 0, .int .i64 0, .int .i64 0, .int .i64 0, .int .i64 0, .int .i64 0, .int .i64 0, .int .i64 0] 43 (0, 0)) _ rfl)
  have HB1 := Lib.hid (((Below.refl w.heap.size w).alloc (Nat.le_refl _) _).trans (hb1.mono (by simp)))
  have hz := block_lt hrow
  have HR := Lib.hid hrow
  have hc := fun j => cell_of_row w1 w.heap.size j _ _ _ hrow
  have hf := fun j => frozen_of_row w1 w.heap.size j _ _ hrow
  clear hb1 hrow
  go_wp2
  have hrow := row_alloc (ten_row HR.out (.int .i64 from0) (.int .i64 to0) (.slice p n cap) (.int .i64 m) (.int .i64 x0) (.int .i64 x1) (.int .i64 x2) (.int .i64 x3) (.int .i64 x4) (.int .i64 x5)) (.cells #[.int .i64 m, .int .i64 x0, .int .i64 x1, .int .i64 x2, .int .i64 x3, .int .i64 x4, .int .i64 x5] 41 (0, 0))
  refine bodyPost_ret (v := .tuple #[.agg #[.int .i64 from0, .int .i64 to0, (.slice p n cap), .int .i64 m, .int .i64 x0, .int .i64 x1, .int .i64 x2, .int .i64 x3, .int .i64 x4, .int .i64 x5], .int .i64 0]) (by simp [results, Try.results39, go_sem, fun i => cell_of_row _ _ i _ _ _ hrow]) rfl ⟨rfl, ?_⟩
  exact balloc (ten_below HB1.out (Nat.le_refl _) _ _ _ _ _ _ _ _ _ _) _
end Go.Proofs.Ytajpggnmhkpbkaa
