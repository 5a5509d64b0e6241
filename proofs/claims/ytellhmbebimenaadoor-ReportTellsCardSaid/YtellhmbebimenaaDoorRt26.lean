/- Contracts of the report: pick, made, Make. Contracts: the reference's Same of a list and itself, and its Sort. Contracts: the reference's Same of any two lists of postings, and of any two reports. -/
import Derived.Test.YtellhmbebimenaaDoorRt14
import Derived.Test.YtellhmbebimenaaDoorRt25
import Derived.Deep.RegionHeld3
import Derived.Deep.RegionLaw

section
set_option linter.unusedVariables false
set_option linter.unusedSimpArgs false
namespace Go.Proofs.YtellhmbebimenaaDoor
open Go.RowKit

theorem own_lower {w : World} {base base' e n m : Nat} {v : Value} {xs : List Value} (h : w.ownsRow base e n v m xs) (hb : base' ≤ base) : w.ownsRow base' e n v m xs := by
  obtain ⟨h1, h2⟩ := h
  refine ⟨h1, ?_⟩
  rcases h2 with h2 | ⟨g, cap, cur, e1, hg, h3⟩
  · exact .inl h2
  · exact .inr ⟨g, cap, cur, e1, Nat.le_trans hb hg, h3⟩
theorem ten_only {w a : World} {g : Nat} (h : Only g a w) (v0 v1 v2 v3 v4 v5 v6 v7 v8 v9 : Value) : Only g a ((((((((((w.setCell ⟨g, 0, none⟩ v0).setCell ⟨g, 1, none⟩ v1).setCell ⟨g, 2, none⟩ v2).setCell ⟨g, 3, none⟩ v3).setCell ⟨g, 4, none⟩ v4).setCell ⟨g, 5, none⟩ v5).setCell ⟨g, 6, none⟩ v6).setCell ⟨g, 7, none⟩ v7).setCell ⟨g, 8, none⟩ v8).setCell ⟨g, 9, none⟩ v9) :=
  (((((((((h.setCell 0 v0).setCell 1 v1).setCell 2 v2).setCell 3 v3).setCell 4 v4).setCell 5 v5).setCell 6 v6).setCell 7 v7).setCell 8 v8).setCell 9 v9
/-- rows of one's own, where one older block alone was written -/
theorem own_only {w3 w4 W : World} {base b0 e n m g : Nat} {v : Value} {xs : List Value} (h : w3.ownsRow base e n v m xs) (hb : Below w3.heap.size w3 w4) (ho : Only g w4 W) (hg : g < base) (h0 : b0 ≤ base) : W.ownsRow b0 e n v m xs := by
  refine own_lower (recs_keep h fun b hb' hlt => ?_) h0
  have := recs_base h hb'
  rw [ho.block b (by have := hb.size; omega) (by omega), hb.block b hlt]
set_option maxRecDepth 4000 in
set_option maxHeartbeats 1000000 in
theorem pickMake_any (l : List Pst) (a b : Int) (ga gb : Nat) (p : Option Addr) (n cap : Nat) (hnb : n ≤ 1000000) (w : World) (hs : PS w (.slice p n cap) l) (ha : w.cell? ⟨ga, 0, none⟩ = some (.int .i64 a)) (hb : w.cell? ⟨gb, 0, none⟩ = some (.int .i64 b)) :
    Calls Tryd.prog 84 #[.slice p n cap, .func (.func 129) #[] #[.pointer (some ⟨ga, 0, none⟩), .pointer (some ⟨gb, 0, none⟩)]] w
      fun e w' => ∃ v', e = .returned v' ∧ w'.ownsRow w.heap.size 49 10 v' (l.filter (Rep.within a b)).length (encL Pst.cells (l.filter (Rep.within a b))) ∧ Below w.heap.size w w' := by
  have HPS := Lib.hid hs; have HN := Lib.hid (ps_len hs).1
  have hn1 := (ps_len hs).2.1
  have hn2 := (ps_len hs).2.2
  have HA := Lib.hid ha; have HB := Lib.hid hb
  have hga := cell_blockW ha
  have hgb := cell_blockW hb
  simp only at hga hgb
  clear hs ha hb
  generalize hq : Rep.within a b = q at *
  go_enter Tryd.func84, Tryd.ntmps84
  go_wp2
  go_loopw [10, 5] (fun i v wr => ∃ k : Nat, k ≤ n ∧ i = .int .i64 k ∧ wr.ownsRow w.heap.size 49 10 v ((l.take k).filter q).length (encL Pst.cells ((l.take k).filter q)) ∧ Below w.heap.size w wr) (fun i _ _ => n - (intOf i).toNat)
  case atStart => exact ⟨0, Nat.zero_le _, rfl, World.ownsRow_nil _ _ _ _, Below.refl _ _⟩
  case round =>
    obtain ⟨k, hk, rfl, hown, hbw⟩ := hrel
    have HO := Lib.hid hown; have HBW := Lib.hid hbw
    have HLE : Hid (((l.take k).filter q).length ≤ n) := Lib.hid (Nat.le_trans (List.length_filter_le _ _) (by rw [List.length_take]; omega))
    clear hown
    by_cases hlt : k < n
    · obtain ⟨x, hx⟩ : ∃ x, l[k]? = some x := ⟨_, List.getElem?_eq_getElem (by have := HN.out; omega)⟩
      obtain ⟨bb, o, rfl, hbl, hat⟩ := ps_at (HPS.out.below hbw) hx
      have HT : Hid ((l.take (k + 1)).filter q = (l.take k).filter q ++ (if q x then [x] else [])) := Lib.hid (by
        rw [List.take_add_one, hx, List.filter_append]
        simp [List.filter_cons])
      have HW : Hid (∀ W, W.cell? ⟨ga, 0, none⟩ = some (.int .i64 a) → W.cell? ⟨gb, 0, none⟩ = some (.int .i64 b) → Calls Tryd.prog 129 #[.agg #[.int .i64 x.d, .int .u64 x.t, .int .i64 x.s, .int .i64 x.k, .int .i64 x.a0, .int .i64 x.a1, .int .i64 x.a2, .int .i64 x.a3, .int .i64 x.a4, .int .i64 x.a5], .pointer (some ⟨ga, 0, none⟩), .pointer (some ⟨gb, 0, none⟩)] W fun e w' => e = .returned (.bool (q x)) ∧ Below W.heap.size W w') := Lib.hid (fun W h1 h2 => by rw [← hq]; exact mk1_any x a b ga gb W h1 h2)
      unfold PAt at hat
      obtain ⟨c0, c1, c2, c3, c4, c5, c6, c7, c8, c9⟩ := hat
      have hb0 := (Below.refl wr.heap.size wr).alloc (Nat.le_refl _) (.cells #[.int .i64 x.d, .int .u64 x.t, .int .i64 x.s, .int .i64 x.k, .int .i64 x.a0, .int .i64 x.a1, .int .i64 x.a2, .int .i64 x.a3, .int .i64 x.a4, .int .i64 x.a5] 49 (0, 0))
      clear hx hbw
      go_wp2_with fail
      refine (HW.out _ ((((HBW.out.alloc HBW.out.size (.cells #[.int .i64 x.d, .int .u64 x.t, .int .i64 x.s, .int .i64 x.k, .int .i64 x.a0, .int .i64 x.a1, .int .i64 x.a2, .int .i64 x.a3, .int .i64 x.a4, .int .i64 x.a5] 49 (0, 0)))).cell (p := ⟨ga, 0, none⟩) hga).trans HA.out) ((((HBW.out.alloc HBW.out.size (.cells #[.int .i64 x.d, .int .u64 x.t, .int .i64 x.s, .int .i64 x.k, .int .i64 x.a0, .int .i64 x.a1, .int .i64 x.a2, .int .i64 x.a3, .int .i64 x.a4, .int .i64 x.a5] 49 (0, 0)))).cell (p := ⟨gb, 0, none⟩) hgb).trans HB.out)).mono ?_
      rintro e w1 ⟨rfl, hb1⟩
      have hrow := (hb1.block wr.heap.size (by simp)).trans (new_row wr (.cells #[.int .i64 x.d, .int .u64 x.t, .int .i64 x.s, .int .i64 x.k, .int .i64 x.a0, .int .i64 x.a1, .int .i64 x.a2, .int .i64 x.a3, .int .i64 x.a4, .int .i64 x.a5] 49 (0, 0)) _ rfl)
      have HB1 := Lib.hid (hb0.trans (hb1.mono (by simp)))
      have HBW1 := Lib.hid (HBW.out.trans (HB1.out.mono HBW.out.size))
      have HO1 := Lib.hid (recs_below HO.out HB1.out)
      clear hb1 hb0 c0 c1 c2 c3 c4 c5 c6 c7 c8 c9
      generalize wr.heap.size = gp at *
      have hcp := fun j => cell_of_row w1 gp j _ _ _ hrow
      obtain ⟨y, hy⟩ : ∃ y, q x = y := ⟨_, rfl⟩
      rw [hy] at HT ⊢
      cases y
      · have HT2 : Hid ((l.take (k + 1)).filter q = (l.take k).filter q) := Lib.hid (by rw [HT.out]; simp)
        clear hy hrow
        go_wp2
        go_roundw
        case rel => exact ⟨k + 1, by omega, by go_num, by rw [HT2.out]; exact HO1.out, HBW1.out⟩
        case measure => simp [intOf]; omega
      · have HT2 : Hid ((l.take (k + 1)).filter q = (l.take k).filter q ++ [x]) := Lib.hid (by rw [HT.out]; simp)
        clear hy hrow
        go_wp2_with (at_builtin; refine wpList_append_recs elemP rfl _ _ rfl w.heap.size _ _ _ rfl (recs_below HO1.out ((Below.refl _ _).alloc (Nat.le_refl _) _)) _ [x] rfl (row_one (x := x) (new_rowW _ _ _ rfl) rfl Pst.cells_length (by decide)) (by have := HLE.out; simp <;> omega) (by have := HBW1.out.size; simp <;> omega) ?_; intro v2 w2 hown2 hg2 hn2 hat2)
        have HO2 : Hid (w2.ownsRow w.heap.size 49 10 v2 ((l.take (k + 1)).filter q).length (encL Pst.cells ((l.take (k + 1)).filter q))) := Lib.hid (by
          rw [HT2.out, List.length_append]
          exact hown2)
        have HB2 := Lib.hid ((HBW1.out.alloc HBW1.out.size _).grown hg2 (by have := HBW1.out.size; simp <;> omega) (fun b hb => (recs_base HO1.out hb).1))
        clear hown2 hg2 hn2 hat2
        go_wp2
        go_roundw
        case rel => exact ⟨k + 1, by omega, by go_num, HO2.out, HB2.out⟩
        case measure => simp [intOf]; omega
    · obtain rfl : k = n := by omega
      have hown := HO.out
      rw [List.take_of_length_le (by have := HN.out; omega)] at hown
      have HO1 := Lib.hid hown
      clear hown hbw
      go_wp2
      go_ret
      exact ⟨_, rfl, HO1.out, HBW.out⟩

set_option maxRecDepth 4000 in
set_option maxHeartbeats 1000000 in
theorem made_bad (from0 to0 : Int) (l : List Pst) (p : Option Addr) (n cap : Nat) (w : World) (hs : PS w (.slice p n cap) l) (ev m x0 x1 x2 x3 x4 x5 : Int) (hsum : Post.sums l = ⟨ev, m, [x0, x1, x2, x3, x4, x5]⟩) (hev : ¬ ev = 0) :
    Calls Tryd.prog 128 #[.int .i64 from0, .int .i64 to0, .slice p n cap] w fun e w' => e = .returned (.tuple #[.agg #[.int .i64 0, .int .i64 0, .slice none 0 0, .int .i64 0, .int .i64 0, .int .i64 0, .int .i64 0, .int .i64 0, .int .i64 0, .int .i64 0], .int .i64 ev]) ∧ Below w.heap.size w w' := by
  have HS := Lib.hid (fun W h => sum_any l p n cap (ps_len hs).1 W h ev m x0 x1 x2 x3 x4 x5 hsum)
  have HPS := Lib.hid hs
  clear hs hsum
  go_enter Tryd.func128, Tryd.ntmps128
  go_wp2_with fail
  refine (HS.out _ (HPS.out.below ((Below.refl _ _).alloc (Nat.le_refl _) _))).mono ?_
  rintro e w1 ⟨rfl, hb1⟩
  have hrow := (hb1.block w.heap.size (by simp)).trans (new_row w (.cells #[.int .i64 0, .int .i64 0, .slice none 0 0, .int .i64 0, .int .i64 0, .int .i64 0, .int .i64 0, .int .i64 0, .int .i64 0, .int .i64 0] 61 (0, 0)) _ rfl)
  have HB1 := Lib.hid (((Below.refl w.heap.size w).alloc (Nat.le_refl _) _).trans (hb1.mono (by simp)))
  have hz := block_lt hrow
  have HR := Lib.hid hrow
  have hc := fun j => cell_of_row w1 w.heap.size j _ _ _ hrow
  have hf := fun j => frozen_of_row w1 w.heap.size j _ _ hrow
  clear hb1 hrow
  go_wp2
  have hrow := row_alloc (ten_row HR.out (.int .i64 0) (.int .i64 0) (.slice none 0 0) (.int .i64 0) (.int .i64 0) (.int .i64 0) (.int .i64 0) (.int .i64 0) (.int .i64 0) (.int .i64 0)) (.cells #[.int .i64 m, .int .i64 x0, .int .i64 x1, .int .i64 x2, .int .i64 x3, .int .i64 x4, .int .i64 x5] 59 (0, 0))
  refine bodyPost_ret (v := .tuple #[.agg #[.int .i64 0, .int .i64 0, .slice none 0 0, .int .i64 0, .int .i64 0, .int .i64 0, .int .i64 0, .int .i64 0, .int .i64 0, .int .i64 0], .int .i64 ev]) (by simp [results, Tryd.results128, go_sem, fun i => cell_of_row _ _ i _ _ _ hrow]) rfl ⟨rfl, ?_⟩
  exact balloc (ten_below HB1.out (Nat.le_refl _) _ _ _ _ _ _ _ _ _ _) _

set_option maxRecDepth 4000 in
set_option maxHeartbeats 1000000 in
theorem made_ok (from0 to0 : Int) (l : List Pst) (p : Option Addr) (n cap : Nat) (w : World) (hs : PS w (.slice p n cap) l) (m x0 x1 x2 x3 x4 x5 : Int) (hsum : Post.sums l = ⟨0, m, [x0, x1, x2, x3, x4, x5]⟩) :
    Calls Tryd.prog 128 #[.int .i64 from0, .int .i64 to0, .slice p n cap] w fun e w' => e = .returned (.tuple #[.agg #[.int .i64 from0, .int .i64 to0, (.slice p n cap), .int .i64 m, .int .i64 x0, .int .i64 x1, .int .i64 x2, .int .i64 x3, .int .i64 x4, .int .i64 x5], .int .i64 0]) ∧ Below w.heap.size w w' := by
  have HS := Lib.hid (fun W h => sum_any l p n cap (ps_len hs).1 W h 0 m x0 x1 x2 x3 x4 x5 hsum)
  have HPS := Lib.hid hs
  clear hs hsum
  go_enter Tryd.func128, Tryd.ntmps128
  go_wp2_with fail
  refine (HS.out _ (HPS.out.below ((Below.refl _ _).alloc (Nat.le_refl _) _))).mono ?_
  rintro e w1 ⟨rfl, hb1⟩
  have hrow := (hb1.block w.heap.size (by simp)).trans (new_row w (.cells #[.int .i64 0, .int .i64 0, .slice none 0 0, .int .i64 0, .int .i64 0, .int .i64 0, .int .i64 0, .int .i64 0, .int .i64 0, .int .i64 0] 61 (0, 0)) _ rfl)
  have HB1 := Lib.hid (((Below.refl w.heap.size w).alloc (Nat.le_refl _) _).trans (hb1.mono (by simp)))
  have hz := block_lt hrow
  have HR := Lib.hid hrow
  have hc := fun j => cell_of_row w1 w.heap.size j _ _ _ hrow
  have hf := fun j => frozen_of_row w1 w.heap.size j _ _ hrow
  clear hb1 hrow
  go_wp2
  have hrow := row_alloc (ten_row HR.out (.int .i64 from0) (.int .i64 to0) (.slice p n cap) (.int .i64 m) (.int .i64 x0) (.int .i64 x1) (.int .i64 x2) (.int .i64 x3) (.int .i64 x4) (.int .i64 x5)) (.cells #[.int .i64 m, .int .i64 x0, .int .i64 x1, .int .i64 x2, .int .i64 x3, .int .i64 x4, .int .i64 x5] 59 (0, 0))
  refine bodyPost_ret (v := .tuple #[.agg #[.int .i64 from0, .int .i64 to0, (.slice p n cap), .int .i64 m, .int .i64 x0, .int .i64 x1, .int .i64 x2, .int .i64 x3, .int .i64 x4, .int .i64 x5], .int .i64 0]) (by simp [results, Tryd.results128, go_sem, fun i => cell_of_row _ _ i _ _ _ hrow]) rfl ⟨rfl, ?_⟩
  exact balloc (ten_below HB1.out (Nat.le_refl _) _ _ _ _ _ _ _ _ _ _) _
end Go.Proofs.YtellhmbebimenaaDoor
end

section
set_option linter.unusedVariables false
set_option linter.unusedSimpArgs false
namespace Go.Proofs.YtellhmbebimenaaDoor
open Go.RowKit
attribute [local go_sem ↓] post_execLoad post_execStore

attribute [local go_sem] post_load post_store loL_drew okL_drew there_sc World.there_drew

set_option maxRecDepth 4000 in
theorem eqInP (x : Pst) (w : World) : (Op.equalIn 10000 49 (.agg x.cells.toArray) (.agg x.cells.toArray)).run Tryd.prog w = .ok true w := by
  have hS : Tryd.prog.underlying 49 = some (.struct (Tryd.prog.fieldsOf 49)) := by kernel_rfl
  have hp : Tryd.prog.stoodInHeld 49 = false := by kernel_rfl
  unfold Pst.cells
  rw [show (10000 : Nat) = 9999 + 1 from rfl, run_equalIn_agg w 9999 49 _ _ hS hp]
  simp only [Program.fieldsOf, Tryd.underlying49]
  go_simp
theorem guardPn (x y : Operand) (xs ys : Array Value) (w : World) : (eqGuard .neq 49 x y (.agg xs) (.agg ys)).run Tryd.prog w = .ok () w := run_eqGuard_agg w _ _ _ _ _ _ (by kernel_rfl)

set_option maxRecDepth 4000 in
set_option maxHeartbeats 400000 in
theorem rSame_any (l : List Pst) (p p' : Option Addr) (n cap cap' : Nat) (w : World) (hs : LS Pst.cells 10 w (.slice p n cap) l) (hs' : LS Pst.cells 10 w (.slice p' n cap') l) :
    Calls Tryd.prog 137 #[.slice p n cap, .slice p' n cap'] w fun e w' => e = .returned (.bool true) ∧ Below w.heap.size w w' := by
  have HL := Lib.hid hs.length
  have HS := Lib.hid hs; have HS' := Lib.hid hs'
  have hmax : n ≤ 9223372036854775807 := by have h1 := HL.out.2.1; have h2 := HL.out.2.2; simp only [maxLen] at h2; omega
  clear hs hs'
  go_enter Tryd.func137, Tryd.ntmps137
  go_wp2
  go_loopw [5] (fun i wr => ∃ k : Nat, k ≤ n ∧ i = .int .i64 k ∧ Below w.heap.size w wr) (fun i _ => n - (intOf i).toNat)
  case atStart => exact ⟨0, Nat.zero_le _, rfl, Below.refl _ _⟩
  case round =>
    obtain ⟨k, hk, rfl, hbw⟩ := hrel
    have HBW := Lib.hid hbw
    by_cases hlt : k < n
    · obtain ⟨x, hx⟩ : ∃ x, l[k]? = some x := ⟨_, List.getElem?_eq_getElem (by have := HL.out.1; omega)⟩
      obtain ⟨b, o, rfl, hb, hr⟩ := (HS.out.below hbw).at hx
      obtain ⟨b', o', rfl, hb', hr'⟩ := (HS'.out.below hbw).at hx
      obtain ⟨f1, f2⟩ := loL_of hr (Pst.cells_length x)
      obtain ⟨f3, f4⟩ := loL_of hr' (Pst.cells_length x)
      have hE := fun W => eqInP x W
      have hG := guardPn
      generalize x.cells = cx at *
      clear hx hr hr' hbw
      go_wp2_with fail
      go_region
      go_wp2
      go_roundw
      case rel => exact ⟨k + 1, by omega, by go_num, HBW.out.drew⟩
      case measure => simp [intOf]; omega
    · obtain rfl : k = n := by omega
      go_wp2
      go_ret
      exact ⟨rfl, HBW.out⟩

theorem ahead_cells (x y : Pst) (w : World) : Calls Tryd.prog 178 #[.agg x.cells.toArray, .agg y.cells.toArray] w fun e w' => e = .returned (.bool (lessP x y)) ∧ Below w.heap.size w w' := ahead_any x y w
theorem less_key {x y : Pst} (hx : x.wf) (hy : y.wf) : lessP x y = true ↔ keyP x < keyP y := by
  rw [← ord_key hx hy, ← ord_less x y]
  simp
end Go.Proofs.YtellhmbebimenaaDoor
end

section
set_option linter.unusedVariables false
set_option linter.unusedSimpArgs false
namespace Go.Proofs.YtellhmbebimenaaDoor
open Go.RowKit
attribute [local go_sem ↓] post_execLoad post_execStore

attribute [local go_sem] post_load post_store loL_drew okL_drew there_sc World.there_drew

set_option maxRecDepth 4000 in
theorem eqInG (x y : Pst) (w : World) : (Op.equalIn 10000 49 (.agg x.cells.toArray) (.agg y.cells.toArray)).run Tryd.prog w = .ok (Rep.sameP x y) w := by
  have hS : Tryd.prog.underlying 49 = some (.struct (Tryd.prog.fieldsOf 49)) := by kernel_rfl
  have hp : Tryd.prog.stoodInHeld 49 = false := by kernel_rfl
  unfold Pst.cells Rep.sameP
  rw [show (10000 : Nat) = 9999 + 1 from rfl, run_equalIn_agg w 9999 49 _ _ hS hp]
  simp only [Program.fieldsOf, Tryd.underlying49]
  go_simp
  repeat' split
  all_goals simp [*]

set_option maxRecDepth 4000 in
set_option maxHeartbeats 400000 in
theorem rSameL_any (l m : List Pst) (bv : Bool) (hbv : bv = true ↔ l = m) (p p' : Option Addr) (n n' cap cap' : Nat) (w : World) (hs : LS Pst.cells 10 w (.slice p n cap) l) (hs' : LS Pst.cells 10 w (.slice p' n' cap') m) :
    Calls Tryd.prog 137 #[.slice p n cap, .slice p' n' cap'] w fun e w' => e = .returned (.bool bv) ∧ Below w.heap.size w w' := by
  have HL := Lib.hid hs.length
  have HL' := Lib.hid hs'.length
  have HS := Lib.hid hs; have HS' := Lib.hid hs'; have HBV := Lib.hid hbv
  have hmax : n ≤ 9223372036854775807 := by have h1 := HL.out.2.1; have h2 := HL.out.2.2; simp only [maxLen] at h2; omega
  have hmax' : n' ≤ 9223372036854775807 := by have h1 := HL'.out.2.1; have h2 := HL'.out.2.2; simp only [maxLen] at h2; omega
  clear hs hs' hbv
  by_cases hnn : n = n'
  · subst hnn
    go_enter Tryd.func137, Tryd.ntmps137
    go_wp2
    go_loopw [5] (fun i wr => ∃ k : Nat, k ≤ n ∧ i = .int .i64 k ∧ Below w.heap.size w wr ∧ l.take k = m.take k) (fun i _ => n - (intOf i).toNat)
    case atStart => exact ⟨0, Nat.zero_le _, rfl, Below.refl _ _, rfl⟩
    case round =>
      obtain ⟨k, hk, rfl, hbw, heq⟩ := hrel
      have HBW := Lib.hid hbw; have HEQ := Lib.hid heq
      clear heq
      by_cases hlt : k < n
      · obtain ⟨x, hx⟩ : ∃ x, l[k]? = some x := ⟨_, List.getElem?_eq_getElem (by have := HL.out.1; omega)⟩
        obtain ⟨y, hy⟩ : ∃ y, m[k]? = some y := ⟨_, List.getElem?_eq_getElem (by have := HL'.out.1; omega)⟩
        have HX := Lib.hid hx; have HY := Lib.hid hy
        obtain ⟨b, o, rfl, hb, hr⟩ := (HS.out.below hbw).at hx
        obtain ⟨b', o', rfl, hb', hr'⟩ := (HS'.out.below hbw).at hy
        obtain ⟨f1, f2⟩ := loL_of hr (Pst.cells_length x)
        obtain ⟨f3, f4⟩ := loL_of hr' (Pst.cells_length y)
        obtain ⟨q, hq⟩ : ∃ q, Rep.sameP x y = q := ⟨_, rfl⟩
        have hE : ∀ W, (Op.equalIn 10000 49 (.agg x.cells.toArray) (.agg y.cells.toArray)).run Tryd.prog W = .ok q W := fun W => by rw [← hq]; exact eqInG x y W
        have HQ := Lib.hid (hq ▸ Rep.sameP_iff x y : (q = true ↔ x = y))
        have hG := guardPn
        generalize x.cells = cx at *
        generalize y.cells = cy at *
        clear hx hy hr hr' hbw hq
        cases q
        · go_wp2_with fail
          go_region
          go_wp2
          go_ret
          refine ⟨ret_bool ?_, HBW.out.drew⟩
          cases hb : bv
          · rfl
          · have h1 := HBV.out.1 hb
            have h2 := HX.out
            rw [h1, HY.out] at h2
            injection h2 with h2
            exact absurd (HQ.out.2 h2.symm) (by simp)
        · go_wp2_with fail
          go_region
          go_wp2
          go_roundw
          case rel => exact ⟨k + 1, by omega, by go_num, HBW.out.drew, by rw [List.take_add_one, List.take_add_one, HX.out, HY.out, HEQ.out, HQ.out.1 (by trivial)]⟩
          case measure => simp [intOf]; omega
      · obtain rfl : k = n := by omega
        have HF : Hid (bv = true) := Lib.hid (HBV.out.2 (by
          have := HEQ.out
          rwa [List.take_of_length_le (by have := HL.out.1; omega), List.take_of_length_le (by have := HL'.out.1; omega)] at this))
        go_wp2
        go_ret
        exact ⟨ret_bool HF.out.symm, HBW.out⟩
  · have HF : Hid (bv = false) := Lib.hid (by
      cases hb : bv
      · rfl
      · exact absurd (by rw [HL.out.1, HL'.out.1, HBV.out.1 hb]) hnn)
    have hnni : ¬ (n : Int) = (n' : Int) := by omega
    go_enter Tryd.func137, Tryd.ntmps137
    go_wp2
    go_ret
    exact ⟨ret_bool HF.out.symm, Below.refl _ _⟩
/-PART2-/
def Rep.sameT (m x0 x1 x2 x3 x4 x5 m' y0 y1 y2 y3 y4 y5 : Int) : Bool := m == m' && (x0 == y0 && (x1 == y1 && (x2 == y2 && (x3 == y3 && (x4 == y4 && (x5 == y5))))))
theorem Rep.sameT_iff (m x0 x1 x2 x3 x4 x5 m' y0 y1 y2 y3 y4 y5 : Int) : Rep.sameT m x0 x1 x2 x3 x4 x5 m' y0 y1 y2 y3 y4 y5 = true ↔ (m = m' ∧ x0 = y0 ∧ x1 = y1 ∧ x2 = y2 ∧ x3 = y3 ∧ x4 = y4 ∧ x5 = y5) := by
  simp [Rep.sameT]
set_option maxRecDepth 4000 in
theorem eqInTG (m x0 x1 x2 x3 x4 x5 m' y0 y1 y2 y3 y4 y5 : Int) (w : World) : (Op.equalIn 10000 59 (.agg #[.int .i64 m, .int .i64 x0, .int .i64 x1, .int .i64 x2, .int .i64 x3, .int .i64 x4, .int .i64 x5]) (.agg #[.int .i64 m', .int .i64 y0, .int .i64 y1, .int .i64 y2, .int .i64 y3, .int .i64 y4, .int .i64 y5])).run Tryd.prog w = .ok (Rep.sameT m x0 x1 x2 x3 x4 x5 m' y0 y1 y2 y3 y4 y5) w := by
  have hS : Tryd.prog.underlying 59 = some (.struct (Tryd.prog.fieldsOf 59)) := by kernel_rfl
  have hp : Tryd.prog.stoodInHeld 59 = false := by kernel_rfl
  unfold Rep.sameT
  rw [show (10000 : Nat) = 9999 + 1 from rfl, run_equalIn_agg w 9999 59 _ _ hS hp]
  simp only [Program.fieldsOf, Tryd.underlying59]
  go_simp
  repeat' split
  all_goals simp [*]
theorem eqTG (m x0 x1 x2 x3 x4 x5 m' y0 y1 y2 y3 y4 y5 : Int) (w : World) : (binOp .eql 59 (.agg #[.int .i64 m, .int .i64 x0, .int .i64 x1, .int .i64 x2, .int .i64 x3, .int .i64 x4, .int .i64 x5]) (.agg #[.int .i64 m', .int .i64 y0, .int .i64 y1, .int .i64 y2, .int .i64 y3, .int .i64 y4, .int .i64 y5])).run Tryd.prog w = .ok (.bool (Rep.sameT m x0 x1 x2 x3 x4 x5 m' y0 y1 y2 y3 y4 y5)) w := by
  have hS : Tryd.prog.underlying 59 = some (.struct (Tryd.prog.fieldsOf 59)) := by kernel_rfl
  have hp : Tryd.prog.stoodInHeld 59 = false := by kernel_rfl
  rw [run_eql_struct]
  have := eqInTG m x0 x1 x2 x3 x4 x5 m' y0 y1 y2 y3 y4 y5 w
  simp only [this, go_sem]
  rfl
theorem guardTe (x y : Operand) (xs ys : Array Value) (w : World) : (eqGuard .eql 59 x y (.agg xs) (.agg ys)).run Tryd.prog w = .ok () w := run_eqGuard_agg w _ _ _ _ _ _ (by kernel_rfl)

set_option maxRecDepth 4000 in
set_option maxHeartbeats 1000000 in
theorem rSameR_any (f t f' t' m x0 x1 x2 x3 x4 x5 m' y0 y1 y2 y3 y4 y5 : Int) (l l' : List Pst) (p p' : Option Addr) (n n' cap cap' : Nat) (bv : Bool) (hbv : bv = true ↔ (f = f' ∧ t = t' ∧ (m = m' ∧ x0 = y0 ∧ x1 = y1 ∧ x2 = y2 ∧ x3 = y3 ∧ x4 = y4 ∧ x5 = y5) ∧ l = l')) (w : World) (hs : LS Pst.cells 10 w (.slice p n cap) l) (hs' : LS Pst.cells 10 w (.slice p' n' cap') l') :
    Calls Tryd.prog 87 #[.agg #[.int .i64 f, .int .i64 t, .slice p n cap, .int .i64 m, .int .i64 x0, .int .i64 x1, .int .i64 x2, .int .i64 x3, .int .i64 x4, .int .i64 x5], .agg #[.int .i64 f', .int .i64 t', .slice p' n' cap', .int .i64 m', .int .i64 y0, .int .i64 y1, .int .i64 y2, .int .i64 y3, .int .i64 y4, .int .i64 y5]] w fun e w' => e = .returned (.bool bv) ∧ Below w.heap.size w w' := by
  have hb0 := (((Below.refl w.heap.size w).alloc (Nat.le_refl _) (.cells #[.int .i64 f, .int .i64 t, .slice p n cap, .int .i64 m, .int .i64 x0, .int .i64 x1, .int .i64 x2, .int .i64 x3, .int .i64 x4, .int .i64 x5] 61 (0, 0))).alloc (by simp) (.cells #[.int .i64 f', .int .i64 t', .slice p' n' cap', .int .i64 m', .int .i64 y0, .int .i64 y1, .int .i64 y2, .int .i64 y3, .int .i64 y4, .int .i64 y5] 61 (0, 0)))
  have HB0 := Lib.hid hb0
  have HS := Lib.hid (hs.below hb0); have HS' := Lib.hid (hs'.below hb0)
  have HBV := Lib.hid hbv
  clear hs hs' hb0 hbv
  by_cases hf : f = f'
  · subst hf
    by_cases ht : t = t'
    · subst ht
      obtain ⟨q, hq⟩ : ∃ q, Rep.sameT m x0 x1 x2 x3 x4 x5 m' y0 y1 y2 y3 y4 y5 = q := ⟨_, rfl⟩
      have hE1 : ∀ W, (Op.equalIn 10000 59 (.agg #[.int .i64 m, .int .i64 x0, .int .i64 x1, .int .i64 x2, .int .i64 x3, .int .i64 x4, .int .i64 x5]) (.agg #[.int .i64 m', .int .i64 y0, .int .i64 y1, .int .i64 y2, .int .i64 y3, .int .i64 y4, .int .i64 y5])).run Tryd.prog W = .ok q W := fun W => by rw [← hq]; exact eqInTG m x0 x1 x2 x3 x4 x5 m' y0 y1 y2 y3 y4 y5 W
      have hE2 : ∀ W, (binOp .eql 59 (.agg #[.int .i64 m, .int .i64 x0, .int .i64 x1, .int .i64 x2, .int .i64 x3, .int .i64 x4, .int .i64 x5]) (.agg #[.int .i64 m', .int .i64 y0, .int .i64 y1, .int .i64 y2, .int .i64 y3, .int .i64 y4, .int .i64 y5])).run Tryd.prog W = .ok (.bool q) W := fun W => by rw [← hq]; exact eqTG m x0 x1 x2 x3 x4 x5 m' y0 y1 y2 y3 y4 y5 W
      have hG := guardTe
      have HQ := Lib.hid (hq ▸ Rep.sameT_iff m x0 x1 x2 x3 x4 x5 m' y0 y1 y2 y3 y4 y5 : (q = true ↔ (m = m' ∧ x0 = y0 ∧ x1 = y1 ∧ x2 = y2 ∧ x3 = y3 ∧ x4 = y4 ∧ x5 = y5)))
      clear hq
      cases q
      · have HF : Hid (bv = false) := Lib.hid (by
          cases hb : bv
          · rfl
          · exact absurd (HQ.out.2 (HBV.out.1 hb).2.2.1) (by simp))
        go_enter Tryd.func87, Tryd.ntmps87
        go_wp2
        go_ret
        exact ⟨ret_bool HF.out.symm, HB0.out⟩
      · have HF : Hid (bv = true ↔ l = l') := Lib.hid ⟨fun h => (HBV.out.1 h).2.2.2, fun h => HBV.out.2 ⟨rfl, rfl, HQ.out.1 (by trivial), h⟩⟩
        go_enter Tryd.func87, Tryd.ntmps87
        go_wp2_with fail
        refine (rSameL_any l l' bv HF.out p p' n n' cap cap' _ HS.out HS'.out).mono ?_
        rintro e w1 ⟨rfl, hb1⟩
        have HB1 := Lib.hid (HB0.out.trans (hb1.mono HB0.out.size))
        clear hb1
        go_wp2
        go_ret
        exact ⟨rfl, HB1.out⟩
    · have HF : Hid (bv = false) := Lib.hid (by
        cases hb : bv
        · rfl
        · exact absurd (HBV.out.1 hb).2.1 ht)
      go_enter Tryd.func87, Tryd.ntmps87
      go_wp2
      go_ret
      exact ⟨ret_bool HF.out.symm, HB0.out⟩
  · have HF : Hid (bv = false) := Lib.hid (by
      cases hb : bv
      · rfl
      · exact absurd (HBV.out.1 hb).1 hf)
    go_enter Tryd.func87, Tryd.ntmps87
    go_wp2
    go_ret
    exact ⟨ret_bool HF.out.symm, HB0.out⟩
end Go.Proofs.YtellhmbebimenaaDoor
end
