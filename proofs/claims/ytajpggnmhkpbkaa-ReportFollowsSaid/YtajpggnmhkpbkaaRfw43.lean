/- Contracts: the rows up to a day, and behind it (report.pick at Split's closures). -/
import Derived.Test.YtajpggnmhkpbkaaRfw42

set_option linter.unusedVariables false
set_option linter.unusedSimpArgs false
namespace Go.Proofs.Ytajpggnmhkpbkaa
open Go.RowKit

def Rep.upTo (d : Int) (x : Pst) : Bool := decide (x.d ≤ d)
def Rep.behind (d : Int) (x : Pst) : Bool := decide (d < x.d)
set_option maxHeartbeats 1000000 in
theorem splUp_any (x : Pst) (a : Int) (ga : Nat) (w : World) (ha : w.cell? ⟨ga, 0, none⟩ = some (.int .i64 a)) :
    Calls Try.prog 48 #[.agg #[.int .i64 x.d, .int .u64 x.t, .int .i64 x.s, .int .i64 x.k, .int .i64 x.a0, .int .i64 x.a1, .int .i64 x.a2, .int .i64 x.a3, .int .i64 x.a4, .int .i64 x.a5], .pointer (some ⟨ga, 0, none⟩)] w fun e w' => e = .returned (.bool (Rep.upTo a x)) ∧ Below w.heap.size w w' := by
  have hga := cell_blockW ha
  simp only at hga
  have hb := (Below.refl w.heap.size w).alloc (Nat.le_refl _) (.cells #[.int .i64 x.d, .int .u64 x.t, .int .i64 x.s, .int .i64 x.k, .int .i64 x.a0, .int .i64 x.a1, .int .i64 x.a2, .int .i64 x.a3, .int .i64 x.a4, .int .i64 x.a5] 68)
  have h2 := (hb.cell (p := ⟨ga, 0, none⟩) hga).trans ha
  have HB := Lib.hid hb
  clear hb ha hga
  go_enter Try.func48, Try.ntmps48
  unfold Rep.upTo
  go_wp2
  go_ret
  exact ⟨ret_bool (by simp), HB.out⟩
set_option maxRecDepth 4000 in
set_option maxHeartbeats 1000000 in
theorem pickUp_any (l : List Pst) (a : Int) (ga : Nat) (p : Option Addr) (n cap : Nat) (hnb : n ≤ 1000000) (w : World) (hs : PS w (.slice p n cap) l) (ha : w.cell? ⟨ga, 0, none⟩ = some (.int .i64 a)) :
    Calls Try.prog 40 #[.slice p n cap, .func (.func 48) #[] #[.pointer (some ⟨ga, 0, none⟩)]] w
      fun e w' => ∃ v', e = .returned v' ∧ w'.ownsRow w.heap.size 68 10 v' (l.filter (Rep.upTo a)).length (encL Pst.cells (l.filter (Rep.upTo a))) ∧ Below w.heap.size w w' := by
  have HPS := Lib.hid hs; have HN := Lib.hid (ps_len hs).1
  have hn1 := (ps_len hs).2.1
  have hn2 := (ps_len hs).2.2
  have HA := Lib.hid ha
  have hga := cell_blockW ha
  simp only at hga
  clear hs ha
  generalize hq : Rep.upTo a = q at *
  go_enter Try.func40, Try.ntmps40
  go_wp2
  go_loopw [10, 5] (fun i v wr => ∃ k : Nat, k ≤ n ∧ i = .int .i64 k ∧ wr.ownsRow w.heap.size 68 10 v ((l.take k).filter q).length (encL Pst.cells ((l.take k).filter q)) ∧ Below w.heap.size w wr) (fun i _ _ => n - (intOf i).toNat)
  case atStart => exact ⟨0, Nat.zero_le _, rfl, World.ownsRow_nil _ _ _ _, Below.refl _ _⟩
  case round =>
    obtain ⟨k, hk, rfl, hown, hbw⟩ := hrel
    have HO := Lib.hid hown; have HBW := Lib.hid hbw
    have HLE : Hid (((l.take k).filter q).length ≤ n) := Lib.hid (Nat.le_trans (List.length_filter_le _ _) (by rw [List.length_take]; omega))
    clear hown
    by_cases hlt : k < n
    · obtain ⟨x, hx⟩ : ∃ x, l[k]? = some x := ⟨_, List.getElem?_eq_getElem (by have := HN.out; omega)⟩
      obtain ⟨bb, o, rfl, hbl, hat⟩ := ps_at (HPS.out.below hbw) hx
      have HT : Hid ((l.take (k + 1)).filter q = (l.take k).filter q ++ (if q x then [x] else [])) := Lib.hid (by
        rw [List.take_add_one, hx, List.filter_append]
        simp [List.filter_cons])
      have HW : Hid (∀ W, W.cell? ⟨ga, 0, none⟩ = some (.int .i64 a) → Calls Try.prog 48 #[.agg #[.int .i64 x.d, .int .u64 x.t, .int .i64 x.s, .int .i64 x.k, .int .i64 x.a0, .int .i64 x.a1, .int .i64 x.a2, .int .i64 x.a3, .int .i64 x.a4, .int .i64 x.a5], .pointer (some ⟨ga, 0, none⟩)] W fun e w' => e = .returned (.bool (q x)) ∧ Below W.heap.size W w') := Lib.hid (fun W h1 => by rw [← hq]; exact splUp_any x a ga W h1)
      unfold PAt at hat
      obtain ⟨c0, c1, c2, c3, c4, c5, c6, c7, c8, c9⟩ := hat
      have hb0 := (Below.refl wr.heap.size wr).alloc (Nat.le_refl _) (.cells #[.int .i64 x.d, .int .u64 x.t, .int .i64 x.s, .int .i64 x.k, .int .i64 x.a0, .int .i64 x.a1, .int .i64 x.a2, .int .i64 x.a3, .int .i64 x.a4, .int .i64 x.a5] 68 (0, 0))
      clear hx hbw
      go_wp2_with fail
      refine (HW.out _ ((((HBW.out.alloc HBW.out.size (.cells #[.int .i64 x.d, .int .u64 x.t, .int .i64 x.s, .int .i64 x.k, .int .i64 x.a0, .int .i64 x.a1, .int .i64 x.a2, .int .i64 x.a3, .int .i64 x.a4, .int .i64 x.a5] 68 (0, 0)))).cell (p := ⟨ga, 0, none⟩) hga).trans HA.out)).mono ?_
      rintro e w1 ⟨rfl, hb1⟩
      have hrow := (hb1.block wr.heap.size (by simp)).trans (new_row wr (.cells #[.int .i64 x.d, .int .u64 x.t, .int .i64 x.s, .int .i64 x.k, .int .i64 x.a0, .int .i64 x.a1, .int .i64 x.a2, .int .i64 x.a3, .int .i64 x.a4, .int .i64 x.a5] 68 (0, 0)) _ rfl)
      have HB1 := Lib.hid (hb0.trans (hb1.mono (by simp)))
      have HBW1 := Lib.hid (HBW.out.trans (HB1.out.mono HBW.out.size))
      have HO1 := Lib.hid (recs_below HO.out HB1.out)
      clear hb1 hb0 c0 c1 c2 c3 c4 c5 c6 c7 c8 c9
      generalize wr.heap.size = gp at *
      have hcp := fun j => cell_of_row w1 gp j _ _ _ hrow
      obtain ⟨y, hy⟩ : ∃ y, q x = y := ⟨_, rfl⟩
      rw [hy] at HT ⊢
      cases y
      · have HT2 : Hid ((l.take (k + 1)).filter q = (l.take k).filter q) := Lib.hid (by rw [HT.out]; simp)
        clear hy hrow
        go_wp2
        go_roundw
        case rel => exact ⟨k + 1, by omega, by go_num, by rw [HT2.out]; exact HO1.out, HBW1.out⟩
        case measure => simp [intOf]; omega
      · have HT2 : Hid ((l.take (k + 1)).filter q = (l.take k).filter q ++ [x]) := Lib.hid (by rw [HT.out]; simp)
        clear hy hrow
        go_wp2_with (at_builtin; refine wpList_append_recs elemP rfl _ _ rfl w.heap.size _ _ _ rfl (recs_below HO1.out ((Below.refl _ _).alloc (Nat.le_refl _) _)) _ [x] rfl (row_one (x := x) (new_rowW _ _ _ rfl) rfl Pst.cells_length (by decide)) (by have := HLE.out; simp <;> omega) (by have := HBW1.out.size; simp <;> omega) ?_; intro v2 w2 hown2 hg2 hn2 hat2)
        have HO2 : Hid (w2.ownsRow w.heap.size 68 10 v2 ((l.take (k + 1)).filter q).length (encL Pst.cells ((l.take (k + 1)).filter q))) := Lib.hid (by
          rw [HT2.out, List.length_append]
          exact hown2)
        have HB2 := Lib.hid ((HBW1.out.alloc HBW1.out.size _).grown hg2 (by have := HBW1.out.size; simp <;> omega) (fun b hb => (recs_base HO1.out hb).1))
        clear hown2 hg2 hn2 hat2
        go_wp2
        go_roundw
        case rel => exact ⟨k + 1, by omega, by go_num, HO2.out, HB2.out⟩
        case measure => simp [intOf]; omega
    · obtain rfl : k = n := by omega
      have hown := HO.out
      rw [List.take_of_length_le (by have := HN.out; omega)] at hown
      have HO1 := Lib.hid hown
      clear hown hbw
      go_wp2
      go_ret
      exact ⟨_, rfl, HO1.out, HBW.out⟩
set_option maxHeartbeats 1000000 in
theorem splBe_any (x : Pst) (a : Int) (ga : Nat) (w : World) (ha : w.cell? ⟨ga, 0, none⟩ = some (.int .i64 a)) :
    Calls Try.prog 49 #[.agg #[.int .i64 x.d, .int .u64 x.t, .int .i64 x.s, .int .i64 x.k, .int .i64 x.a0, .int .i64 x.a1, .int .i64 x.a2, .int .i64 x.a3, .int .i64 x.a4, .int .i64 x.a5], .pointer (some ⟨ga, 0, none⟩)] w fun e w' => e = .returned (.bool (Rep.behind a x)) ∧ Below w.heap.size w w' := by
  have hga := cell_blockW ha
  simp only at hga
  have hb := (Below.refl w.heap.size w).alloc (Nat.le_refl _) (.cells #[.int .i64 x.d, .int .u64 x.t, .int .i64 x.s, .int .i64 x.k, .int .i64 x.a0, .int .i64 x.a1, .int .i64 x.a2, .int .i64 x.a3, .int .i64 x.a4, .int .i64 x.a5] 68)
  have h2 := (hb.cell (p := ⟨ga, 0, none⟩) hga).trans ha
  have HB := Lib.hid hb
  clear hb ha hga
  go_enter Try.func49, Try.ntmps49
  unfold Rep.behind
  go_wp2
  go_ret
  exact ⟨ret_bool (by simp), HB.out⟩
set_option maxRecDepth 4000 in
set_option maxHeartbeats 1000000 in
theorem pickBe_any (l : List Pst) (a : Int) (ga : Nat) (p : Option Addr) (n cap : Nat) (hnb : n ≤ 1000000) (w : World) (hs : PS w (.slice p n cap) l) (ha : w.cell? ⟨ga, 0, none⟩ = some (.int .i64 a)) :
    Calls Try.prog 40 #[.slice p n cap, .func (.func 49) #[] #[.pointer (some ⟨ga, 0, none⟩)]] w
      fun e w' => ∃ v', e = .returned v' ∧ w'.ownsRow w.heap.size 68 10 v' (l.filter (Rep.behind a)).length (encL Pst.cells (l.filter (Rep.behind a))) ∧ Below w.heap.size w w' := by
  have HPS := Lib.hid hs; have HN := Lib.hid (ps_len hs).1
  have hn1 := (ps_len hs).2.1
  have hn2 := (ps_len hs).2.2
  have HA := Lib.hid ha
  have hga := cell_blockW ha
  simp only at hga
  clear hs ha
  generalize hq : Rep.behind a = q at *
  go_enter Try.func40, Try.ntmps40
  go_wp2
  go_loopw [10, 5] (fun i v wr => ∃ k : Nat, k ≤ n ∧ i = .int .i64 k ∧ wr.ownsRow w.heap.size 68 10 v ((l.take k).filter q).length (encL Pst.cells ((l.take k).filter q)) ∧ Below w.heap.size w wr) (fun i _ _ => n - (intOf i).toNat)
  case atStart => exact ⟨0, Nat.zero_le _, rfl, World.ownsRow_nil _ _ _ _, Below.refl _ _⟩
  case round =>
    obtain ⟨k, hk, rfl, hown, hbw⟩ := hrel
    have HO := Lib.hid hown; have HBW := Lib.hid hbw
    have HLE : Hid (((l.take k).filter q).length ≤ n) := Lib.hid (Nat.le_trans (List.length_filter_le _ _) (by rw [List.length_take]; omega))
    clear hown
    by_cases hlt : k < n
    · obtain ⟨x, hx⟩ : ∃ x, l[k]? = some x := ⟨_, List.getElem?_eq_getElem (by have := HN.out; omega)⟩
      obtain ⟨bb, o, rfl, hbl, hat⟩ := ps_at (HPS.out.below hbw) hx
      have HT : Hid ((l.take (k + 1)).filter q = (l.take k).filter q ++ (if q x then [x] else [])) := Lib.hid (by
        rw [List.take_add_one, hx, List.filter_append]
        simp [List.filter_cons])
      have HW : Hid (∀ W, W.cell? ⟨ga, 0, none⟩ = some (.int .i64 a) → Calls Try.prog 49 #[.agg #[.int .i64 x.d, .int .u64 x.t, .int .i64 x.s, .int .i64 x.k, .int .i64 x.a0, .int .i64 x.a1, .int .i64 x.a2, .int .i64 x.a3, .int .i64 x.a4, .int .i64 x.a5], .pointer (some ⟨ga, 0, none⟩)] W fun e w' => e = .returned (.bool (q x)) ∧ Below W.heap.size W w') := Lib.hid (fun W h1 => by rw [← hq]; exact splBe_any x a ga W h1)
      unfold PAt at hat
      obtain ⟨c0, c1, c2, c3, c4, c5, c6, c7, c8, c9⟩ := hat
      have hb0 := (Below.refl wr.heap.size wr).alloc (Nat.le_refl _) (.cells #[.int .i64 x.d, .int .u64 x.t, .int .i64 x.s, .int .i64 x.k, .int .i64 x.a0, .int .i64 x.a1, .int .i64 x.a2, .int .i64 x.a3, .int .i64 x.a4, .int .i64 x.a5] 68 (0, 0))
      clear hx hbw
      go_wp2_with fail
      refine (HW.out _ ((((HBW.out.alloc HBW.out.size (.cells #[.int .i64 x.d, .int .u64 x.t, .int .i64 x.s, .int .i64 x.k, .int .i64 x.a0, .int .i64 x.a1, .int .i64 x.a2, .int .i64 x.a3, .int .i64 x.a4, .int .i64 x.a5] 68 (0, 0)))).cell (p := ⟨ga, 0, none⟩) hga).trans HA.out)).mono ?_
      rintro e w1 ⟨rfl, hb1⟩
      have hrow := (hb1.block wr.heap.size (by simp)).trans (new_row wr (.cells #[.int .i64 x.d, .int .u64 x.t, .int .i64 x.s, .int .i64 x.k, .int .i64 x.a0, .int .i64 x.a1, .int .i64 x.a2, .int .i64 x.a3, .int .i64 x.a4, .int .i64 x.a5] 68 (0, 0)) _ rfl)
      have HB1 := Lib.hid (hb0.trans (hb1.mono (by simp)))
      have HBW1 := Lib.hid (HBW.out.trans (HB1.out.mono HBW.out.size))
      have HO1 := Lib.hid (recs_below HO.out HB1.out)
      clear hb1 hb0 c0 c1 c2 c3 c4 c5 c6 c7 c8 c9
      generalize wr.heap.size = gp at *
      have hcp := fun j => cell_of_row w1 gp j _ _ _ hrow
      obtain ⟨y, hy⟩ : ∃ y, q x = y := ⟨_, rfl⟩
      rw [hy] at HT ⊢
      cases y
      · have HT2 : Hid ((l.take (k + 1)).filter q = (l.take k).filter q) := Lib.hid (by rw [HT.out]; simp)
        clear hy hrow
        go_wp2
        go_roundw
        case rel => exact ⟨k + 1, by omega, by go_num, by rw [HT2.out]; exact HO1.out, HBW1.out⟩
        case measure => simp [intOf]; omega
      · have HT2 : Hid ((l.take (k + 1)).filter q = (l.take k).filter q ++ [x]) := Lib.hid (by rw [HT.out]; simp)
        clear hy hrow
        go_wp2_with (at_builtin; refine wpList_append_recs elemP rfl _ _ rfl w.heap.size _ _ _ rfl (recs_below HO1.out ((Below.refl _ _).alloc (Nat.le_refl _) _)) _ [x] rfl (row_one (x := x) (new_rowW _ _ _ rfl) rfl Pst.cells_length (by decide)) (by have := HLE.out; simp <;> omega) (by have := HBW1.out.size; simp <;> omega) ?_; intro v2 w2 hown2 hg2 hn2 hat2)
        have HO2 : Hid (w2.ownsRow w.heap.size 68 10 v2 ((l.take (k + 1)).filter q).length (encL Pst.cells ((l.take (k + 1)).filter q))) := Lib.hid (by
          rw [HT2.out, List.length_append]
          exact hown2)
        have HB2 := Lib.hid ((HBW1.out.alloc HBW1.out.size _).grown hg2 (by have := HBW1.out.size; simp <;> omega) (fun b hb => (recs_base HO1.out hb).1))
        clear hown2 hg2 hn2 hat2
        go_wp2
        go_roundw
        case rel => exact ⟨k + 1, by omega, by go_num, HO2.out, HB2.out⟩
        case measure => simp [intOf]; omega
    · obtain rfl : k = n := by omega
      have hown := HO.out
      rw [List.take_of_length_le (by have := HN.out; omega)] at hown
      have HO1 := Lib.hid hown
      clear hown hbw
      go_wp2
      go_ret
      exact ⟨_, rfl, HO1.out, HBW.out⟩
end Go.Proofs.Ytajpggnmhkpbkaa
