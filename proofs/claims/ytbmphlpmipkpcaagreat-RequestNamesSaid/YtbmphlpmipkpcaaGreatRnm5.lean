/- Contracts: a mail, weighed (request.mailed.run, MayMail). Contracts of the two Locator functions: which texts are locators. -/
import Derived.Test.YtbmphlpmipkpcaaGreatRnm4
import Derived.Test.YtbmphlpmipkpcaaGreatRnm3

section
set_option linter.unusedVariables false
set_option linter.unusedSimpArgs false
namespace Go.Proofs.YtbmphlpmipkpcaaGreat
open Go.RowKit

theorem pweighs_any (T : TypeId) (cs : Array Value) (g : Nat) (w : World) (hx : w.heap[g]? = some (.cells cs T (0, 0))) (h0 : cs[0]? = some (.pointer none)) (h1 : cs[1]? = some (.pointer none)) :
    Calls Tryz.prog 118 #[.pointer (some ⟨g, 0, none⟩)] w fun e w' => e = .returned (.bool true) ∧ w = w' := by
  have c0 : w.cell? ⟨g, 0, none⟩ = some (.pointer none) := (cell_of_row w g 0 _ _ _ hx).trans h0
  have c1 : w.cell? ⟨g, 1, none⟩ = some (.pointer none) := (cell_of_row w g 1 _ _ _ hx).trans h1
  clear hx h0 h1
  go_enter Tryz.func118, Tryz.ntmps118
  go_wp2
  go_ret
  exact ⟨rfl, rfl⟩

set_option maxRecDepth 10000 in
set_option maxHeartbeats 2000000 in
theorem mrunO_any (g gm : Nat) (gd : Bool) (k tk c d co fl dy va st ho nx : Int) (w : World) (hx : w.heap[g]? = some (.cells #[.pointer none, .pointer none, .bool gd, .pointer (some ⟨gm, 0, none⟩)] 146 (0, 0))) (hy : w.heap[gm]? = some (.cells #[.int .i64 k, .int .u64 tk, .int .i64 c, .int .i64 d, .int .i64 co, .int .i64 fl, .int .i64 dy, .int .i64 va, .int .i64 st, .int .i64 ho, .int .u64 nx] 78 (0, 0))) (hne : gm ≠ g) (ht : U64 tk) (h3 : ¬ k = 3) (h2 : ¬ k = 2) :
    Calls Tryz.prog 81 #[.pointer (some ⟨g, 0, none⟩)] w fun e w' => e = .returned (.tuple #[]) ∧ w'.heap[g]? = some (.cells #[.pointer none, .pointer none, .bool (((gd && Tkt.numB tk) && inB 1 4 c) && inB 0 1000000 d), .pointer (some ⟨gm, 0, none⟩)] 146 (0, 0)) ∧ w'.heap[gm]? = some (.cells #[.int .i64 k, .int .u64 0, .int .i64 0, .int .i64 0, .int .i64 co, .int .i64 fl, .int .i64 dy, .int .i64 va, .int .i64 st, .int .i64 ho, .int .u64 nx] 78 (0, 0)) ∧ Turn (fun k => k = g ∨ k = gm) w w' := by
  have HX0 := Lib.hid hx; have HY0 := Lib.hid hy; have HNE := Lib.hid hne
  have HT0 : Hid (Turn (fun k => k = g ∨ k = gm) w w) := Lib.hid (Turn.refl _ _)
  have cx0 := fun j => cell_of_row w g j _ _ _ hx
  have cy0 := fun j => cell_of_row w gm j _ _ _ hy
  clear hx hy hne
  go_enter Tryz.func81, Tryz.ntmps81
  go_wp2_with fail
  go_still_tail 9, (by kernel_rfl)
  change wpList _ _ _ _ _ (w.drew)
  go_wp2_with fail
  refine (pticket_any 146 78 #[.pointer none, .pointer none, .bool gd, .pointer (some ⟨gm, 0, none⟩)] #[.int .i64 k, .int .u64 tk, .int .i64 c, .int .i64 d, .int .i64 co, .int .i64 fl, .int .i64 dy, .int .i64 va, .int .i64 st, .int .i64 ho, .int .u64 nx] g gm 1 gd tk (w.drew) HX0.out HY0.out HNE.out rfl rfl rfl rfl ht).mono ?_
  rintro e w1 ⟨rfl, hx1, hy1, ht1⟩
  have HX1 : Hid (w1.heap[g]? = some (.cells #[.pointer none, .pointer none, .bool (gd && Tkt.numB tk), .pointer (some ⟨gm, 0, none⟩)] 146 (0, 0))) := Lib.hid hx1
  have HY1 : Hid (w1.heap[gm]? = some (.cells #[.int .i64 k, .int .u64 0, .int .i64 c, .int .i64 d, .int .i64 co, .int .i64 fl, .int .i64 dy, .int .i64 va, .int .i64 st, .int .i64 ho, .int .u64 nx] 78 (0, 0))) := Lib.hid hy1
  have HT1 : Hid (Turn (fun k => k = g ∨ k = gm) w w1) := Lib.hid ((HT0.out.drew).trans ht1)
  clear cx0 cy0
  have cx1 := fun j => cell_of_row w1 g j _ _ _ HX1.out
  have cy1 := fun j => cell_of_row w1 gm j _ _ _ HY1.out
  clear hx1 hy1 ht1
  go_wp2_with fail
  go_still_tail 9, (by kernel_rfl)
  change wpList _ _ _ _ _ (w1.drew)
  go_wp2_with fail
  refine (pplace_any 146 78 #[.pointer none, .pointer none, .bool (gd && Tkt.numB tk), .pointer (some ⟨gm, 0, none⟩)] #[.int .i64 k, .int .u64 0, .int .i64 c, .int .i64 d, .int .i64 co, .int .i64 fl, .int .i64 dy, .int .i64 va, .int .i64 st, .int .i64 ho, .int .u64 nx] g gm 2 _ c (w1.drew) HX1.out HY1.out HNE.out rfl rfl rfl rfl).mono ?_
  rintro e w2 ⟨rfl, hx1, hy1, ht1⟩
  have HX2 : Hid (w2.heap[g]? = some (.cells #[.pointer none, .pointer none, .bool ((gd && Tkt.numB tk) && inB 1 4 c), .pointer (some ⟨gm, 0, none⟩)] 146 (0, 0))) := Lib.hid hx1
  have HY2 : Hid (w2.heap[gm]? = some (.cells #[.int .i64 k, .int .u64 0, .int .i64 0, .int .i64 d, .int .i64 co, .int .i64 fl, .int .i64 dy, .int .i64 va, .int .i64 st, .int .i64 ho, .int .u64 nx] 78 (0, 0))) := Lib.hid hy1
  have HT2 : Hid (Turn (fun k => k = g ∨ k = gm) w w2) := Lib.hid ((HT1.out.drew).trans ht1)
  clear cx1 cy1
  have cx2 := fun j => cell_of_row w2 g j _ _ _ HX2.out
  have cy2 := fun j => cell_of_row w2 gm j _ _ _ HY2.out
  clear hx1 hy1 ht1
  go_wp2_with fail
  go_still_tail 9, (by kernel_rfl)
  change wpList _ _ _ _ _ (w2.drew)
  go_wp2_with fail
  refine (pday_any 146 78 #[.pointer none, .pointer none, .bool ((gd && Tkt.numB tk) && inB 1 4 c), .pointer (some ⟨gm, 0, none⟩)] #[.int .i64 k, .int .u64 0, .int .i64 0, .int .i64 d, .int .i64 co, .int .i64 fl, .int .i64 dy, .int .i64 va, .int .i64 st, .int .i64 ho, .int .u64 nx] g gm 3 _ d (w2.drew) HX2.out HY2.out HNE.out rfl rfl rfl rfl).mono ?_
  rintro e w3 ⟨rfl, hx1, hy1, ht1⟩
  have HX3 : Hid (w3.heap[g]? = some (.cells #[.pointer none, .pointer none, .bool (((gd && Tkt.numB tk) && inB 1 4 c) && inB 0 1000000 d), .pointer (some ⟨gm, 0, none⟩)] 146 (0, 0))) := Lib.hid hx1
  have HY3 : Hid (w3.heap[gm]? = some (.cells #[.int .i64 k, .int .u64 0, .int .i64 0, .int .i64 0, .int .i64 co, .int .i64 fl, .int .i64 dy, .int .i64 va, .int .i64 st, .int .i64 ho, .int .u64 nx] 78 (0, 0))) := Lib.hid hy1
  have HT3 : Hid (Turn (fun k => k = g ∨ k = gm) w w3) := Lib.hid ((HT2.out.drew).trans ht1)
  clear cx2 cy2
  have cx3 := fun j => cell_of_row w3 g j _ _ _ HX3.out
  have cy3 := fun j => cell_of_row w3 gm j _ _ _ HY3.out
  clear hx1 hy1 ht1
  go_wp2
  refine bodyPost_ret (results_none rfl _ _ _) rfl ?_
  exact ⟨rfl, HX3.out, HY3.out, HT3.out⟩

set_option maxRecDepth 10000 in
set_option maxHeartbeats 2000000 in
theorem mrunD_any (g gm : Nat) (gd : Bool) ( tk c d co fl dy va st ho nx : Int) (w : World) (hx : w.heap[g]? = some (.cells #[.pointer none, .pointer none, .bool gd, .pointer (some ⟨gm, 0, none⟩)] 146 (0, 0))) (hy : w.heap[gm]? = some (.cells #[.int .i64 3, .int .u64 tk, .int .i64 c, .int .i64 d, .int .i64 co, .int .i64 fl, .int .i64 dy, .int .i64 va, .int .i64 st, .int .i64 ho, .int .u64 nx] 78 (0, 0))) (hne : gm ≠ g) (ht : U64 tk) :
    Calls Tryz.prog 81 #[.pointer (some ⟨g, 0, none⟩)] w fun e w' => e = .returned (.tuple #[]) ∧ w'.heap[g]? = some (.cells #[.pointer none, .pointer none, .bool (((gd && Tkt.numB tk) && inB 1 4 c) && inB 1 17 co), .pointer (some ⟨gm, 0, none⟩)] 146 (0, 0)) ∧ w'.heap[gm]? = some (.cells #[.int .i64 3, .int .u64 0, .int .i64 0, .int .i64 d, .int .i64 0, .int .i64 fl, .int .i64 dy, .int .i64 va, .int .i64 st, .int .i64 ho, .int .u64 nx] 78 (0, 0)) ∧ Turn (fun k => k = g ∨ k = gm) w w' := by
  have HX0 := Lib.hid hx; have HY0 := Lib.hid hy; have HNE := Lib.hid hne
  have HT0 : Hid (Turn (fun k => k = g ∨ k = gm) w w) := Lib.hid (Turn.refl _ _)
  have cx0 := fun j => cell_of_row w g j _ _ _ hx
  have cy0 := fun j => cell_of_row w gm j _ _ _ hy
  clear hx hy hne
  go_enter Tryz.func81, Tryz.ntmps81
  go_wp2_with fail
  go_still_tail 9, (by kernel_rfl)
  change wpList _ _ _ _ _ (w.drew)
  go_wp2_with fail
  refine (pticket_any 146 78 #[.pointer none, .pointer none, .bool gd, .pointer (some ⟨gm, 0, none⟩)] #[.int .i64 3, .int .u64 tk, .int .i64 c, .int .i64 d, .int .i64 co, .int .i64 fl, .int .i64 dy, .int .i64 va, .int .i64 st, .int .i64 ho, .int .u64 nx] g gm 1 gd tk (w.drew) HX0.out HY0.out HNE.out rfl rfl rfl rfl ht).mono ?_
  rintro e w1 ⟨rfl, hx1, hy1, ht1⟩
  have HX1 : Hid (w1.heap[g]? = some (.cells #[.pointer none, .pointer none, .bool (gd && Tkt.numB tk), .pointer (some ⟨gm, 0, none⟩)] 146 (0, 0))) := Lib.hid hx1
  have HY1 : Hid (w1.heap[gm]? = some (.cells #[.int .i64 3, .int .u64 0, .int .i64 c, .int .i64 d, .int .i64 co, .int .i64 fl, .int .i64 dy, .int .i64 va, .int .i64 st, .int .i64 ho, .int .u64 nx] 78 (0, 0))) := Lib.hid hy1
  have HT1 : Hid (Turn (fun k => k = g ∨ k = gm) w w1) := Lib.hid ((HT0.out.drew).trans ht1)
  clear cx0 cy0
  have cx1 := fun j => cell_of_row w1 g j _ _ _ HX1.out
  have cy1 := fun j => cell_of_row w1 gm j _ _ _ HY1.out
  clear hx1 hy1 ht1
  go_wp2_with fail
  go_still_tail 9, (by kernel_rfl)
  change wpList _ _ _ _ _ (w1.drew)
  go_wp2_with fail
  refine (pplace_any 146 78 #[.pointer none, .pointer none, .bool (gd && Tkt.numB tk), .pointer (some ⟨gm, 0, none⟩)] #[.int .i64 3, .int .u64 0, .int .i64 c, .int .i64 d, .int .i64 co, .int .i64 fl, .int .i64 dy, .int .i64 va, .int .i64 st, .int .i64 ho, .int .u64 nx] g gm 2 _ c (w1.drew) HX1.out HY1.out HNE.out rfl rfl rfl rfl).mono ?_
  rintro e w2 ⟨rfl, hx1, hy1, ht1⟩
  have HX2 : Hid (w2.heap[g]? = some (.cells #[.pointer none, .pointer none, .bool ((gd && Tkt.numB tk) && inB 1 4 c), .pointer (some ⟨gm, 0, none⟩)] 146 (0, 0))) := Lib.hid hx1
  have HY2 : Hid (w2.heap[gm]? = some (.cells #[.int .i64 3, .int .u64 0, .int .i64 0, .int .i64 d, .int .i64 co, .int .i64 fl, .int .i64 dy, .int .i64 va, .int .i64 st, .int .i64 ho, .int .u64 nx] 78 (0, 0))) := Lib.hid hy1
  have HT2 : Hid (Turn (fun k => k = g ∨ k = gm) w w2) := Lib.hid ((HT1.out.drew).trans ht1)
  clear cx1 cy1
  have cx2 := fun j => cell_of_row w2 g j _ _ _ HX2.out
  have cy2 := fun j => cell_of_row w2 gm j _ _ _ HY2.out
  clear hx1 hy1 ht1
  go_wp2_with fail
  have hm := new_rowW w2 (.cells #[.int .i64 co] 3) _ rfl
  have hl : g < w2.heap.size := block_lt HX2.out
  have hl' : gm < w2.heap.size := block_lt HY2.out
  refine (pnumber_any 146 3 #[.pointer none, .pointer none, .bool ((gd && Tkt.numB tk) && inB 1 4 c), .pointer (some ⟨gm, 0, none⟩)] #[.int .i64 co] g w2.heap.size 0 _ co 1 1 17 _ (row_allocS HX2.out _) hm (by omega) rfl rfl rfl rfl).mono ?_
  rintro e w3 ⟨rfl, hx1, hm1, ht1⟩
  have hy1 : w3.heap[gm]? = some (.cells #[.int .i64 3, .int .u64 0, .int .i64 0, .int .i64 d, .int .i64 co, .int .i64 fl, .int .i64 dy, .int .i64 va, .int .i64 st, .int .i64 ho, .int .u64 nx] 78 (0, 0)) := (ht1.block gm (block_lt (row_allocS HY2.out _)) (by have := HNE.out; rintro (h | h) <;> omega)).trans (row_allocS HY2.out _)
  have cm : w3.cell? ⟨w2.heap.size, 0, none⟩ = some (.int .i64 0) := cell_of_row w3 w2.heap.size 0 _ _ _ hm1
  have hty := ((HT2.out.alloc (.cells #[.int .i64 co] 3)).after ht1 (fun i hi h => by rcases h with h | h; exact .inl h; have := HT2.out.size; omega))
  have HX3 : Hid (w3.heap[g]? = some (.cells #[.pointer none, .pointer none, .bool (((gd && Tkt.numB tk) && inB 1 4 c) && inB 1 17 co), .pointer (some ⟨gm, 0, none⟩)] 146 (0, 0))) := Lib.hid hx1
  have HY3 : Hid (w3.heap[gm]? = some (.cells #[.int .i64 3, .int .u64 0, .int .i64 0, .int .i64 d, .int .i64 co, .int .i64 fl, .int .i64 dy, .int .i64 va, .int .i64 st, .int .i64 ho, .int .u64 nx] 78 (0, 0))) := Lib.hid hy1
  have HT3 : Hid (Turn (fun k => k = g ∨ k = gm) w w3) := Lib.hid (hty)
  clear cx2 cy2
  have cx3 := fun j => cell_of_row w3 g j _ _ _ HX3.out
  have cy3 := fun j => cell_of_row w3 gm j _ _ _ HY3.out
  have HF3 := fun j => frozen_of_row w3 gm j _ _ HY3.out
  clear hx1 hy1 hm hm1 ht1 hty hl hl'
  go_wp2_with fail
  go_still_tail 7, (by kernel_rfl)
  change wpList _ _ _ _ _ (w3.drew)
  go_wp2
  refine bodyPost_ret (results_none rfl _ _ _) rfl ?_
  refine ⟨rfl, (heap_setCell_other _ _ _ _ (Ne.symm HNE.out)).trans HX3.out, heap_setCell_same _ gm 4 _ _ _ HY3.out, HT3.out.drew.setCell (.inr rfl) _ _⟩

set_option maxRecDepth 10000 in
set_option maxHeartbeats 2000000 in
theorem mrunG_any (g gm : Nat) (gd : Bool) ( tk c d co fl dy va st ho nx : Int) (w : World) (hx : w.heap[g]? = some (.cells #[.pointer none, .pointer none, .bool gd, .pointer (some ⟨gm, 0, none⟩)] 146 (0, 0))) (hy : w.heap[gm]? = some (.cells #[.int .i64 2, .int .u64 tk, .int .i64 c, .int .i64 d, .int .i64 co, .int .i64 fl, .int .i64 dy, .int .i64 va, .int .i64 st, .int .i64 ho, .int .u64 nx] 78 (0, 0))) (hne : gm ≠ g) (ht : U64 tk) (hva : I64 va) :
    Calls Tryz.prog 81 #[.pointer (some ⟨g, 0, none⟩)] w fun e w' => e = .returned (.tuple #[]) ∧ w'.heap[g]? = some (.cells #[.pointer none, .pointer none, .bool (((((gd && Tkt.numB tk) && inB 1 4 c) && inB 0 1000000 d) && flyB fl dy va) && st == 1), .pointer (some ⟨gm, 0, none⟩)] 146 (0, 0)) ∧ w'.heap[gm]? = some (.cells #[.int .i64 2, .int .u64 0, .int .i64 0, .int .i64 0, .int .i64 co, .int .i64 0, .int .i64 0, .int .i64 0, .int .i64 0, .int .i64 ho, .int .u64 nx] 78 (0, 0)) ∧ Turn (fun k => k = g ∨ k = gm) w w' := by
  have HX0 := Lib.hid hx; have HY0 := Lib.hid hy; have HNE := Lib.hid hne
  have HT0 : Hid (Turn (fun k => k = g ∨ k = gm) w w) := Lib.hid (Turn.refl _ _)
  have cx0 := fun j => cell_of_row w g j _ _ _ hx
  have cy0 := fun j => cell_of_row w gm j _ _ _ hy
  clear hx hy hne
  go_enter Tryz.func81, Tryz.ntmps81
  go_wp2_with fail
  go_still_tail 9, (by kernel_rfl)
  change wpList _ _ _ _ _ (w.drew)
  go_wp2_with fail
  refine (pticket_any 146 78 #[.pointer none, .pointer none, .bool gd, .pointer (some ⟨gm, 0, none⟩)] #[.int .i64 2, .int .u64 tk, .int .i64 c, .int .i64 d, .int .i64 co, .int .i64 fl, .int .i64 dy, .int .i64 va, .int .i64 st, .int .i64 ho, .int .u64 nx] g gm 1 gd tk (w.drew) HX0.out HY0.out HNE.out rfl rfl rfl rfl ht).mono ?_
  rintro e w1 ⟨rfl, hx1, hy1, ht1⟩
  have HX1 : Hid (w1.heap[g]? = some (.cells #[.pointer none, .pointer none, .bool (gd && Tkt.numB tk), .pointer (some ⟨gm, 0, none⟩)] 146 (0, 0))) := Lib.hid hx1
  have HY1 : Hid (w1.heap[gm]? = some (.cells #[.int .i64 2, .int .u64 0, .int .i64 c, .int .i64 d, .int .i64 co, .int .i64 fl, .int .i64 dy, .int .i64 va, .int .i64 st, .int .i64 ho, .int .u64 nx] 78 (0, 0))) := Lib.hid hy1
  have HT1 : Hid (Turn (fun k => k = g ∨ k = gm) w w1) := Lib.hid ((HT0.out.drew).trans ht1)
  clear cx0 cy0
  have cx1 := fun j => cell_of_row w1 g j _ _ _ HX1.out
  have cy1 := fun j => cell_of_row w1 gm j _ _ _ HY1.out
  clear hx1 hy1 ht1
  go_wp2_with fail
  go_still_tail 9, (by kernel_rfl)
  change wpList _ _ _ _ _ (w1.drew)
  go_wp2_with fail
  refine (pplace_any 146 78 #[.pointer none, .pointer none, .bool (gd && Tkt.numB tk), .pointer (some ⟨gm, 0, none⟩)] #[.int .i64 2, .int .u64 0, .int .i64 c, .int .i64 d, .int .i64 co, .int .i64 fl, .int .i64 dy, .int .i64 va, .int .i64 st, .int .i64 ho, .int .u64 nx] g gm 2 _ c (w1.drew) HX1.out HY1.out HNE.out rfl rfl rfl rfl).mono ?_
  rintro e w2 ⟨rfl, hx1, hy1, ht1⟩
  have HX2 : Hid (w2.heap[g]? = some (.cells #[.pointer none, .pointer none, .bool ((gd && Tkt.numB tk) && inB 1 4 c), .pointer (some ⟨gm, 0, none⟩)] 146 (0, 0))) := Lib.hid hx1
  have HY2 : Hid (w2.heap[gm]? = some (.cells #[.int .i64 2, .int .u64 0, .int .i64 0, .int .i64 d, .int .i64 co, .int .i64 fl, .int .i64 dy, .int .i64 va, .int .i64 st, .int .i64 ho, .int .u64 nx] 78 (0, 0))) := Lib.hid hy1
  have HT2 : Hid (Turn (fun k => k = g ∨ k = gm) w w2) := Lib.hid ((HT1.out.drew).trans ht1)
  clear cx1 cy1
  have cx2 := fun j => cell_of_row w2 g j _ _ _ HX2.out
  have cy2 := fun j => cell_of_row w2 gm j _ _ _ HY2.out
  clear hx1 hy1 ht1
  go_wp2_with fail
  go_still_tail 9, (by kernel_rfl)
  change wpList _ _ _ _ _ (w2.drew)
  go_wp2_with fail
  refine (pday_any 146 78 #[.pointer none, .pointer none, .bool ((gd && Tkt.numB tk) && inB 1 4 c), .pointer (some ⟨gm, 0, none⟩)] #[.int .i64 2, .int .u64 0, .int .i64 0, .int .i64 d, .int .i64 co, .int .i64 fl, .int .i64 dy, .int .i64 va, .int .i64 st, .int .i64 ho, .int .u64 nx] g gm 3 _ d (w2.drew) HX2.out HY2.out HNE.out rfl rfl rfl rfl).mono ?_
  rintro e w3 ⟨rfl, hx1, hy1, ht1⟩
  have HX3 : Hid (w3.heap[g]? = some (.cells #[.pointer none, .pointer none, .bool (((gd && Tkt.numB tk) && inB 1 4 c) && inB 0 1000000 d), .pointer (some ⟨gm, 0, none⟩)] 146 (0, 0))) := Lib.hid hx1
  have HY3 : Hid (w3.heap[gm]? = some (.cells #[.int .i64 2, .int .u64 0, .int .i64 0, .int .i64 0, .int .i64 co, .int .i64 fl, .int .i64 dy, .int .i64 va, .int .i64 st, .int .i64 ho, .int .u64 nx] 78 (0, 0))) := Lib.hid hy1
  have HT3 : Hid (Turn (fun k => k = g ∨ k = gm) w w3) := Lib.hid ((HT2.out.drew).trans ht1)
  clear cx2 cy2
  have cx3 := fun j => cell_of_row w3 g j _ _ _ HX3.out
  have cy3 := fun j => cell_of_row w3 gm j _ _ _ HY3.out
  clear hx1 hy1 ht1
  go_wp2_with fail
  go_still_tail 9, (by kernel_rfl)
  change wpList _ _ _ _ _ (w3.drew)
  go_wp2_with fail
  refine (pflight_any 146 78 #[.pointer none, .pointer none, .bool (((gd && Tkt.numB tk) && inB 1 4 c) && inB 0 1000000 d), .pointer (some ⟨gm, 0, none⟩)] #[.int .i64 2, .int .u64 0, .int .i64 0, .int .i64 0, .int .i64 co, .int .i64 fl, .int .i64 dy, .int .i64 va, .int .i64 st, .int .i64 ho, .int .u64 nx] g gm 5 _ fl dy va (w3.drew) HX3.out HY3.out HNE.out rfl rfl rfl rfl rfl rfl hva).mono ?_
  rintro e w4 ⟨rfl, hx1, hy1, ht1⟩
  have HX4 : Hid (w4.heap[g]? = some (.cells #[.pointer none, .pointer none, .bool ((((gd && Tkt.numB tk) && inB 1 4 c) && inB 0 1000000 d) && flyB fl dy va), .pointer (some ⟨gm, 0, none⟩)] 146 (0, 0))) := Lib.hid hx1
  have HY4 : Hid (w4.heap[gm]? = some (.cells #[.int .i64 2, .int .u64 0, .int .i64 0, .int .i64 0, .int .i64 co, .int .i64 0, .int .i64 0, .int .i64 0, .int .i64 st, .int .i64 ho, .int .u64 nx] 78 (0, 0))) := Lib.hid hy1
  have HT4 : Hid (Turn (fun k => k = g ∨ k = gm) w w4) := Lib.hid ((HT3.out.drew).trans ht1)
  clear cx3 cy3
  have cx4 := fun j => cell_of_row w4 g j _ _ _ HX4.out
  have cy4 := fun j => cell_of_row w4 gm j _ _ _ HY4.out
  clear hx1 hy1 ht1
  go_wp2_with fail
  refine (pweighs_any 146 #[.pointer none, .pointer none, .bool ((((gd && Tkt.numB tk) && inB 1 4 c) && inB 0 1000000 d) && flyB fl dy va), .pointer (some ⟨gm, 0, none⟩)] g w4 HX4.out rfl rfl).mono ?_
  rintro e w' ⟨rfl, rfl⟩
  go_wp2_with fail
  go_still_tail 12, (by kernel_rfl)
  change wpList _ _ _ _ _ (w4.drew)
  go_wp2_with fail
  refine (pweigh_any 146 #[.pointer none, .pointer none, .bool ((((gd && Tkt.numB tk) && inB 1 4 c) && inB 0 1000000 d) && flyB fl dy va), .pointer (some ⟨gm, 0, none⟩)] g _ _ (w4.drew) HX4.out rfl).mono ?_
  rintro e w5 ⟨rfl, hx1, ht1⟩
  have hy1 : w5.heap[gm]? = some (.cells #[.int .i64 2, .int .u64 0, .int .i64 0, .int .i64 0, .int .i64 co, .int .i64 0, .int .i64 0, .int .i64 0, .int .i64 st, .int .i64 ho, .int .u64 nx] 78 (0, 0)) := (ht1.block gm (block_lt HY4.out) HNE.out).trans HY4.out
  have hty := HT4.out.drew.after ht1 (fun i hi h => .inl h)
  have HX5 : Hid (w5.heap[g]? = some (.cells #[.pointer none, .pointer none, .bool (((((gd && Tkt.numB tk) && inB 1 4 c) && inB 0 1000000 d) && flyB fl dy va) && st == 1), .pointer (some ⟨gm, 0, none⟩)] 146 (0, 0))) := Lib.hid hx1
  have HY5 : Hid (w5.heap[gm]? = some (.cells #[.int .i64 2, .int .u64 0, .int .i64 0, .int .i64 0, .int .i64 co, .int .i64 0, .int .i64 0, .int .i64 0, .int .i64 st, .int .i64 ho, .int .u64 nx] 78 (0, 0))) := Lib.hid hy1
  have HT5 : Hid (Turn (fun k => k = g ∨ k = gm) w w5) := Lib.hid (hty)
  clear cx4 cy4
  have cx5 := fun j => cell_of_row w5 g j _ _ _ HX5.out
  have cy5 := fun j => cell_of_row w5 gm j _ _ _ HY5.out
  have HF5 := fun j => frozen_of_row w5 gm j _ _ HY5.out
  clear hx1 hy1 ht1 hty
  go_wp2
  go_end0
  refine ⟨rfl, (heap_setCell_other _ _ _ _ (Ne.symm HNE.out)).trans HX5.out, heap_setCell_same _ gm 8 _ _ _ HY5.out, HT5.out.setCell (.inr rfl) _ _⟩

namespace Ltr
def czB (fl dy va st ho nx : Int) : Bool := (fl == 0 && (dy == 0 && (va == 0 && (st == 0 && (ho == 0 && nx == 0)))))
/-- which mails may be -/
def mailB (k tk c d co fl dy va st ho nx : Int) : Bool := inB 1 5 k && Tkt.numB tk && inB 1 4 c &&
  (if k = 3 then inB 1 17 co && (d == 0 && czB fl dy va st ho nx) else if k = 2 then inB 0 1000000 d && (co == 0 && (flyB fl dy va && (st == 1 && (ho == 0 && nx == 0)))) else inB 0 1000000 d && (co == 0 && czB fl dy va st ho nx))
/-- are two mails the same? -/
def eqM (k tk c d co fl dy va st ho nx k' tk' c' d' co' fl' dy' va' st' ho' nx' : Int) : Bool :=
  k == k' && (tk == tk' && (c == c' && (d == d' && (co == co' && (fl == fl' && (dy == dy' && (va == va' && (st == st' && (ho == ho' && nx == nx')))))))))
end Ltr
end Go.Proofs.YtbmphlpmipkpcaaGreat
end

section
set_option linter.unusedSimpArgs false
set_option linter.unusedVariables false
namespace Go.Proofs.YtbmphlpmipkpcaaGreat
open Go.RowKit

theorem iter_below (w : World) (s : ByteArray) (p : Nat) : Below w.heap.size w (w.iter s p) := (Below.refl _ _).alloc (Nat.le_refl _) _
theorem width_pos (s : ByteArray) (pos : Nat) (h : pos < s.size) : 1 ≤ (Utf8.decode s pos).2 := by
  by_cases ha : (s[pos]'h).toNat < 128
  · rw [decode_ascii s pos h ha]
    exact Nat.le_refl _
  · exact (decode_high s pos h (by omega)).2
theorem drop_step (s : ByteArray) (k : Nat) (h : k < s.size) : s.data.toList.drop k = s[k] :: s.data.toList.drop (k + 1) := by
  rw [List.drop_eq_getElem_cons (by simpa using h)]; rfl
theorem drop_end (s : ByteArray) (k : Nat) (h : ¬ k < s.size) : s.data.toList.drop k = [] := by
  apply List.drop_eq_nil_of_le; simp; omega

theorem all_step {l r : List UInt8} {c : UInt8} {b : Bool} (h : l = c :: r) (hb : Num.locByte c = b) : l.all Num.locByte = (b && r.all Num.locByte) := by rw [h, List.all_cons, hb]

def iv (c : Int) : Prop := c < 50 ∨ (50 ≤ c ∧ c ≤ 57) ∨ (57 < c ∧ c < 65) ∨ (65 ≤ c ∧ c ≤ 90) ∨ 90 < c
theorem iv_any (c : Int) : c < 50 ∨ (50 ≤ c ∧ c ≤ 57) ∨ (57 < c ∧ c < 65) ∨ (65 ≤ c ∧ c ≤ 90) ∨ 90 < c := by omega

set_option maxHeartbeats 400000 in
theorem refLocator_any (s : ByteArray) (w : World) (hs : s.size ≤ maxLen) :
    Calls Tryz.prog 124 #[.string s] w fun e w' => e = .returned (.bool (Num.loc s.data.toList)) ∧ w = w' := by
  unfold maxLen at hs
  go_enter Tryz.func124, Tryz.ntmps124
  go_wp2
  go_loop [3] (fun i => ∃ k : Nat, k ≤ s.size ∧ i = .int .i64 k ∧ s.data.toList.all Num.locByte = (s.data.toList.drop k).all Num.locByte) (fun i => s.size - (intOf i).toNat)
  case atStart => exact ⟨0, Nat.zero_le _, rfl, rfl⟩
  case round =>
    obtain ⟨k, hk, rfl, hall⟩ := hrel
    have HA := Lib.hid hall; clear hall
    by_cases hlt : k < s.size
    · have HD := Lib.hid (drop_step s k hlt)
      rcases iv_any (s[k].toNat : Int) with hb | ⟨hb, hb'⟩ | ⟨hb, hb'⟩ | ⟨hb, hb'⟩ | hb
      case inr.inl | inr.inr.inr.inl =>
        all_goals
          have HS := Lib.hid (all_step HD.out (Num.locByte_yes (by omega)))
          go_wp2
          go_round
          case rel => exact ⟨k + 1, by omega, by go_num, by rw [HA.out, HS.out]; rfl⟩
          case measure => simp [intOf]; omega
      all_goals
        have HS := Lib.hid (all_step HD.out (Num.locByte_no (by omega)))
        go_wp2
      all_goals first
        | (go_ret; exact ⟨ret_bool (by unfold Num.loc; rw [HA.out, HS.out]; rfl), rfl⟩)
        | (exfalso; simp only [Bool.not_eq_eq_eq_not, Bool.not_false, Bool.not_true, decide_eq_true_eq, decide_eq_false_iff_not] at *; omega)
    · have HD := Lib.hid (drop_end s k hlt)
      go_wp2
      go_ret
      refine ⟨ret_bool ?_, rfl⟩
      unfold Num.loc
      rw [HA.out, HD.out]
      rw [Bool.eq_iff_iff]; simp; omega

set_option maxHeartbeats 400000 in
theorem locator_any (s : ByteArray) (w : World) (hs : s.size ≤ maxLen) :
    Calls Tryz.prog 188 #[.string s] w fun e w' => e = .returned (.bool (Num.loc s.data.toList)) ∧ Below w.heap.size w w' := by
  unfold maxLen at hs
  go_enter Tryz.func188, Tryz.ntmps188
  go_wp2
  go_loopw [4] (fun _ w' => ∃ k : Nat, k ≤ s.size ∧ w' = w.iter s k ∧ s.data.toList.all Num.locByte = (s.data.toList.drop k).all Num.locByte) (fun _ w' => s.size - w'.iterPos w.heap.size)
  case atStart => exact ⟨0, Nat.zero_le _, rfl, rfl⟩
  case round =>
    obtain ⟨k, hk, rfl, hall⟩ := hrel
    have HA := Lib.hid hall; clear hall
    by_cases hlt : k < s.size
    · have HD := Lib.hid (drop_step s k hlt)
      by_cases ha : (s[k]'hlt).toNat < 128
      · have hnx : ∀ ty, (Instr.next (.pointer (some ⟨w.heap.size, 0, none⟩)) true ty).run Tryz.prog (w.iter s k) = _ := fun ty => run_next_ascii w s k ty hlt ha
        rcases iv_any (s[k].toNat : Int) with hb | ⟨hb, hb'⟩ | ⟨hb, hb'⟩ | ⟨hb, hb'⟩ | hb
        case inr.inl | inr.inr.inr.inl =>
          all_goals
            have HS := Lib.hid (all_step HD.out (Num.locByte_yes (by omega)))
            go_wp2
            go_roundw
            case rel => exact ⟨k + 1, by omega, rfl, by rw [HA.out, HS.out]; rfl⟩
            case measure => simp; omega
        all_goals
          have HS := Lib.hid (all_step HD.out (Num.locByte_no (by omega)))
          go_wp2
          go_ret
          exact ⟨ret_bool (by unfold Num.loc; rw [HA.out, HS.out]; rfl), iter_below _ _ _⟩
      · have hnx : ∀ ty, (Instr.next (.pointer (some ⟨w.heap.size, 0, none⟩)) true ty).run Tryz.prog (w.iter s k) = _ := fun ty => run_next_any w s k ty hlt
        have hh := (decode_high s k hlt (by omega)).1
        have HS := Lib.hid (all_step HD.out (Num.locByte_no (by omega)))
        go_wp2
        all_goals
          go_ret
          exact ⟨ret_bool (by unfold Num.loc; rw [HA.out, HS.out]; rfl), iter_below _ _ _⟩
    · have hnx : ∀ ty, (Instr.next (.pointer (some ⟨w.heap.size, 0, none⟩)) true ty).run Tryz.prog (w.iter s k) = _ := fun ty => run_next_end w s k ty hlt
      have HD := Lib.hid (drop_end s k hlt)
      go_wp2
      go_ret
      refine ⟨ret_bool ?_, iter_below _ _ _⟩
      unfold Num.loc
      rw [HA.out, HD.out]
      rw [Bool.eq_iff_iff]; simp; omega

end Go.Proofs.YtbmphlpmipkpcaaGreat
end
