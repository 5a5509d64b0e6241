/- Contracts: a mail's parts are put, and taken (request.mailed.run, with a writer, with a reader). -/
import Derived.Test.YtbmphlpmipkpcaaGreatRnm33
import Derived.Test.YtbmphlpmipkpcaaGreatRnm36

set_option linter.unusedVariables false
set_option linter.unusedSimpArgs false
namespace Go.Proofs.YtbmphlpmipkpcaaGreat
open Go.RowKit

theorem WStep.later {w w1 w2 : World} {base bw k : Nat} {st : Option (List UInt8)} (h : WStep w w1 base bw k st) (hb : Below w1.heap.size w1 w2) : WStep w w2 base bw k st :=
  ⟨h.1.below hb, h.2.1.trans (hb.mono (Nat.le_trans h.1.lt.1 (Nat.le_of_lt h.1.lt.2))), h.2.2.trans (Kept.of_below hb)⟩
theorem GS.later {w w1 w2 : World} {base br b : Nat} {st : Option (List UInt8)} {e : TypeId} {cs : Array Value} (h : GS w w1 base br st b e cs) (hb : Below w1.heap.size w1 w2) : GS w w2 base br st b e cs :=
  ⟨h.i.below hb, (hb.block _ (block_lt h.r)).trans h.r, h.k.trans (KeptB.of_below hb), h.b.trans (hb.mono (Nat.le_trans h.i.lt.1 (Nat.le_of_lt h.i.lt.2)))⟩
theorem GS.put {w w1 : World} {base br b : Nat} {st : Option (List UInt8)} {e : TypeId} {cs : Array Value} (h : GS w w1 base br st b e cs) (he : e ∉ RU) (hb : base ≤ b) (o : Nat) (v : Value) : GS w (w1.setCell ⟨b, o, none⟩ v) base br st b e (cs.setIfInBounds o v) :=
  ⟨h.i.set h.r he o v, heap_setCell_same _ _ _ _ _ _ h.r, h.k.set o v, h.b.setCell hb v⟩
theorem pweighsW (T : TypeId) (cs : Array Value) (g bw : Nat) (w : World) (hx : w.heap[g]? = some (.cells cs T (0, 0))) (h0 : cs[0]? = some (.pointer (some ⟨bw, 0, none⟩))) :
    Calls Tryz.prog 118 #[.pointer (some ⟨g, 0, none⟩)] w fun e w' => e = .returned (.bool false) ∧ w = w' := by
  have c0 : w.cell? ⟨g, 0, none⟩ = some (.pointer (some ⟨bw, 0, none⟩)) := (cell_of_row w g 0 _ _ _ hx).trans h0
  clear hx h0
  go_enter Tryz.func118, Tryz.ntmps118
  go_wp2
  go_ret
  exact ⟨rfl, rfl⟩
theorem pweighsR (T : TypeId) (cs : Array Value) (g br : Nat) (w : World) (hx : w.heap[g]? = some (.cells cs T (0, 0))) (h0 : cs[0]? = some (.pointer none)) (h1 : cs[1]? = some (.pointer (some ⟨br, 0, none⟩))) :
    Calls Tryz.prog 118 #[.pointer (some ⟨g, 0, none⟩)] w fun e w' => e = .returned (.bool false) ∧ w = w' := by
  have c0 : w.cell? ⟨g, 0, none⟩ = some (.pointer none) := (cell_of_row w g 0 _ _ _ hx).trans h0
  have c1 : w.cell? ⟨g, 1, none⟩ = some (.pointer (some ⟨br, 0, none⟩)) := (cell_of_row w g 1 _ _ _ hx).trans h1
  clear hx h0 h1
  go_enter Tryz.func118, Tryz.ntmps118
  go_wp2
  go_ret
  exact ⟨rfl, rfl⟩

set_option maxRecDepth 10000 in
set_option maxHeartbeats 2000000 in
theorem mrunWO (g gm base bw K : Nat) (l : List UInt8) (gd : Bool) (k st ho nx fl dy va co : Int) (tk c d : Nat) (h3 : ¬ k = 3) (h2 : ¬ k = 2) (htk : tk < 18446744073709551616) (hc : c < 256) (hd : d < 4294967296) (w : World) (hx : w.heap[g]? = some (.cells #[.pointer (some ⟨bw, 0, none⟩), .pointer none, .bool gd, .pointer (some ⟨gm, 0, none⟩)] 146 (0, 0))) (hy : w.heap[gm]? = some (.cells #[.int .i64 k, .int .u64 (tk : Int), .int .i64 (c : Int), .int .i64 (d : Int), .int .i64 co, .int .i64 fl, .int .i64 dy, .int .i64 va, .int .i64 st, .int .i64 ho, .int .u64 nx] 78 (0, 0))) (h : IsW w base bw K (some l)) (hK : K + 27 ≤ 536870912) :
    Calls Tryz.prog 81 #[.pointer (some ⟨g, 0, none⟩)] w fun e w' => e = .returned (.tuple #[]) ∧ WStep w w' base bw (K + 9 + 9 + 9) (some (((l ++ Wire.be tk 8) ++ Wire.be c 1) ++ Wire.be d 4)) := by
  have HX := Lib.hid hx; have HY := Lib.hid hy; have HI := Lib.hid h; have HLT := Lib.hid h.lt; have HST := Lib.hid (WStep.refl h)
  have cx := fun j => cell_of_row w g j _ _ _ hx
  have cy := fun j => cell_of_row w gm j _ _ _ hy
  clear hx hy h
  go_enter Tryz.func81, Tryz.ntmps81
  go_wp2_with fail
  go_still_tail 9, (by kernel_rfl)
  change wpList _ _ _ _ _ (w.drew)
  go_wp2_with fail
  have hI := HST.out.1.below (Below.refl w.heap.size w).drew
  refine (pticketW 146 78 _ _ g gm 1 base bw _ _ tk htk (by omega) (w.drew) HX.out HY.out rfl rfl (by decide) (by decide) hI).mono ?_
  rintro e w1 ⟨rfl, hst⟩
  have HX := Lib.hid (hst.2.2.row (show (w.drew).heap[g]? = _ from HX.out) (by decide))
  have HY := Lib.hid (hst.2.2.row (show (w.drew).heap[gm]? = _ from HY.out) (by decide))
  have HST := Lib.hid ((HST.out.later (Below.refl w.heap.size w).drew).trans hst)
  clear hst cx cy hI
  have cx := fun j => cell_of_row w1 g j _ _ _ HX.out
  have cy := fun j => cell_of_row w1 gm j _ _ _ HY.out
  go_wp2_with fail
  go_still_tail 9, (by kernel_rfl)
  change wpList _ _ _ _ _ (w1.drew)
  go_wp2_with fail
  have hI := HST.out.1.below (Below.refl w1.heap.size w1).drew
  refine (pplaceW 146 78 _ _ g gm 2 base bw _ _ c hc (by omega) (w1.drew) HX.out HY.out rfl rfl (by decide) (by decide) hI).mono ?_
  rintro e w2 ⟨rfl, hst⟩
  have HX := Lib.hid (hst.2.2.row (show (w1.drew).heap[g]? = _ from HX.out) (by decide))
  have HY := Lib.hid (hst.2.2.row (show (w1.drew).heap[gm]? = _ from HY.out) (by decide))
  have HST := Lib.hid ((HST.out.later (Below.refl w1.heap.size w1).drew).trans hst)
  clear hst cx cy hI
  have cx := fun j => cell_of_row w2 g j _ _ _ HX.out
  have cy := fun j => cell_of_row w2 gm j _ _ _ HY.out
  go_wp2_with fail
  go_still_tail 9, (by kernel_rfl)
  change wpList _ _ _ _ _ (w2.drew)
  go_wp2_with fail
  have hI := HST.out.1.below (Below.refl w2.heap.size w2).drew
  refine (pdayW 146 78 _ _ g gm 3 base bw _ _ d hd (by omega) (w2.drew) HX.out HY.out rfl rfl (by decide) (by decide) hI).mono ?_
  rintro e w3 ⟨rfl, hst⟩
  have HX := Lib.hid (hst.2.2.row (show (w2.drew).heap[g]? = _ from HX.out) (by decide))
  have HY := Lib.hid (hst.2.2.row (show (w2.drew).heap[gm]? = _ from HY.out) (by decide))
  have HST := Lib.hid ((HST.out.later (Below.refl w2.heap.size w2).drew).trans hst)
  clear hst cx cy hI
  have cx := fun j => cell_of_row w3 g j _ _ _ HX.out
  have cy := fun j => cell_of_row w3 gm j _ _ _ HY.out
  go_wp2
  first | go_end0 | refine bodyPost_ret (results_none rfl _ _ _) rfl ?_
  exact ⟨rfl, HST.out⟩

set_option maxRecDepth 10000 in
set_option maxHeartbeats 2000000 in
theorem mrunWD (g gm base bw K : Nat) (l : List UInt8) (gd : Bool) (d st ho nx fl dy va : Int) (tk c co : Nat) (htk : tk < 18446744073709551616) (hc : c < 256) (hco : co < 256) (w : World) (hx : w.heap[g]? = some (.cells #[.pointer (some ⟨bw, 0, none⟩), .pointer none, .bool gd, .pointer (some ⟨gm, 0, none⟩)] 146 (0, 0))) (hy : w.heap[gm]? = some (.cells #[.int .i64 3, .int .u64 (tk : Int), .int .i64 (c : Int), .int .i64 d, .int .i64 (co : Int), .int .i64 fl, .int .i64 dy, .int .i64 va, .int .i64 st, .int .i64 ho, .int .u64 nx] 78 (0, 0))) (h : IsW w base bw K (some l)) (hK : K + 27 ≤ 536870912) :
    Calls Tryz.prog 81 #[.pointer (some ⟨g, 0, none⟩)] w fun e w' => e = .returned (.tuple #[]) ∧ WStep w w' base bw (K + 9 + 9 + 9) (some (((l ++ Wire.be tk 8) ++ Wire.be c 1) ++ Wire.be co 1)) := by
  have HX := Lib.hid hx; have HY := Lib.hid hy; have HI := Lib.hid h; have HLT := Lib.hid h.lt; have HST := Lib.hid (WStep.refl h)
  have cx := fun j => cell_of_row w g j _ _ _ hx
  have cy := fun j => cell_of_row w gm j _ _ _ hy
  clear hx hy h
  go_enter Tryz.func81, Tryz.ntmps81
  go_wp2_with fail
  go_still_tail 9, (by kernel_rfl)
  change wpList _ _ _ _ _ (w.drew)
  go_wp2_with fail
  have hI := HST.out.1.below (Below.refl w.heap.size w).drew
  refine (pticketW 146 78 _ _ g gm 1 base bw _ _ tk htk (by omega) (w.drew) HX.out HY.out rfl rfl (by decide) (by decide) hI).mono ?_
  rintro e w1 ⟨rfl, hst⟩
  have HX := Lib.hid (hst.2.2.row (show (w.drew).heap[g]? = _ from HX.out) (by decide))
  have HY := Lib.hid (hst.2.2.row (show (w.drew).heap[gm]? = _ from HY.out) (by decide))
  have HST := Lib.hid ((HST.out.later (Below.refl w.heap.size w).drew).trans hst)
  clear hst cx cy hI
  have cx := fun j => cell_of_row w1 g j _ _ _ HX.out
  have cy := fun j => cell_of_row w1 gm j _ _ _ HY.out
  go_wp2_with fail
  go_still_tail 9, (by kernel_rfl)
  change wpList _ _ _ _ _ (w1.drew)
  go_wp2_with fail
  have hI := HST.out.1.below (Below.refl w1.heap.size w1).drew
  refine (pplaceW 146 78 _ _ g gm 2 base bw _ _ c hc (by omega) (w1.drew) HX.out HY.out rfl rfl (by decide) (by decide) hI).mono ?_
  rintro e w2 ⟨rfl, hst⟩
  have HX := Lib.hid (hst.2.2.row (show (w1.drew).heap[g]? = _ from HX.out) (by decide))
  have HY := Lib.hid (hst.2.2.row (show (w1.drew).heap[gm]? = _ from HY.out) (by decide))
  have HST := Lib.hid ((HST.out.later (Below.refl w1.heap.size w1).drew).trans hst)
  clear hst cx cy hI
  have cx := fun j => cell_of_row w2 g j _ _ _ HX.out
  have cy := fun j => cell_of_row w2 gm j _ _ _ HY.out
  go_wp2_with fail
  have hm := new_rowW w2 (.cells #[.int .i64 (co : Int)] 3) _ rfl
  have hbn := (Below.refl w2.heap.size w2).alloc (Nat.le_refl _) (.cells #[.int .i64 (co : Int)] 3)
  refine (pnumW 146 3 _ _ g w2.heap.size 0 base bw _ _ co 1 1 17 (by decide) (by simpa using hco) (by omega) _ (row_allocW HX.out _) hm rfl rfl (by decide) (by decide) (HST.out.1.below hbn)).mono ?_
  rintro e w3 ⟨rfl, hst⟩
  have hm1 := hst.2.2.row hm (by decide)
  have km := fun j => cell_of_row w3 w2.heap.size j _ _ _ hm1
  have HX := Lib.hid (hst.2.2.row (row_allocW HX.out _) (by decide))
  have HY := Lib.hid (hst.2.2.row (row_allocW HY.out _) (by decide))
  have HST := Lib.hid ((HST.out.later hbn).trans hst)
  clear hm hbn hm1 hst cx cy
  have cx := fun j => cell_of_row w3 g j _ _ _ HX.out
  have cy := fun j => cell_of_row w3 gm j _ _ _ HY.out
  have kf := fun j => frozen_of_row w3 gm j _ _ HY.out
  have HID := Lib.hid (setCell_id (w := w3) (o := 4) (v := .int .i64 (co : Int)) HY.out rfl)
  go_wp2_with fail
  go_still_tail 7, (by kernel_rfl)
  change wpList _ _ _ _ _ (w3.drew)
  go_wp2
  first | go_end0 | refine bodyPost_ret (results_none rfl _ _ _) rfl ?_
  refine ⟨rfl, ?_⟩
  rw [HID.out]
  exact HST.out.later (Below.refl _ _).drew

set_option maxRecDepth 10000 in
set_option maxHeartbeats 2000000 in
theorem mrunWG (g gm base bw K : Nat) (l : List UInt8) (gd : Bool) (st ho nx co : Int) (tk c d fl dy va : Nat) (htk : tk < 18446744073709551616) (hc : c < 256) (hd : d < 4294967296) (hfl : fl < 65536) (hdy : dy < 4294967296) (hva : va < 9223372036854775808) (w : World) (hx : w.heap[g]? = some (.cells #[.pointer (some ⟨bw, 0, none⟩), .pointer none, .bool gd, .pointer (some ⟨gm, 0, none⟩)] 146 (0, 0))) (hy : w.heap[gm]? = some (.cells #[.int .i64 2, .int .u64 (tk : Int), .int .i64 (c : Int), .int .i64 (d : Int), .int .i64 co, .int .i64 (fl : Int), .int .i64 (dy : Int), .int .i64 (va : Int), .int .i64 st, .int .i64 ho, .int .u64 nx] 78 (0, 0))) (h : IsW w base bw K (some l)) (hK : K + 54 ≤ 536870912) :
    Calls Tryz.prog 81 #[.pointer (some ⟨g, 0, none⟩)] w fun e w' => e = .returned (.tuple #[]) ∧ WStep w w' base bw (K + 9 + 9 + 9 + 9 + 9 + 9) (some (((((((l ++ Wire.be tk 8) ++ Wire.be c 1) ++ Wire.be d 4) ++ Wire.be fl 2) ++ Wire.be dy 4) ++ Wire.be va 8))) := by
  have HX := Lib.hid hx; have HY := Lib.hid hy; have HI := Lib.hid h; have HLT := Lib.hid h.lt; have HST := Lib.hid (WStep.refl h)
  have cx := fun j => cell_of_row w g j _ _ _ hx
  have cy := fun j => cell_of_row w gm j _ _ _ hy
  clear hx hy h
  go_enter Tryz.func81, Tryz.ntmps81
  go_wp2_with fail
  go_still_tail 9, (by kernel_rfl)
  change wpList _ _ _ _ _ (w.drew)
  go_wp2_with fail
  have hI := HST.out.1.below (Below.refl w.heap.size w).drew
  refine (pticketW 146 78 _ _ g gm 1 base bw _ _ tk htk (by omega) (w.drew) HX.out HY.out rfl rfl (by decide) (by decide) hI).mono ?_
  rintro e w1 ⟨rfl, hst⟩
  have HX := Lib.hid (hst.2.2.row (show (w.drew).heap[g]? = _ from HX.out) (by decide))
  have HY := Lib.hid (hst.2.2.row (show (w.drew).heap[gm]? = _ from HY.out) (by decide))
  have HST := Lib.hid ((HST.out.later (Below.refl w.heap.size w).drew).trans hst)
  clear hst cx cy hI
  have cx := fun j => cell_of_row w1 g j _ _ _ HX.out
  have cy := fun j => cell_of_row w1 gm j _ _ _ HY.out
  go_wp2_with fail
  go_still_tail 9, (by kernel_rfl)
  change wpList _ _ _ _ _ (w1.drew)
  go_wp2_with fail
  have hI := HST.out.1.below (Below.refl w1.heap.size w1).drew
  refine (pplaceW 146 78 _ _ g gm 2 base bw _ _ c hc (by omega) (w1.drew) HX.out HY.out rfl rfl (by decide) (by decide) hI).mono ?_
  rintro e w2 ⟨rfl, hst⟩
  have HX := Lib.hid (hst.2.2.row (show (w1.drew).heap[g]? = _ from HX.out) (by decide))
  have HY := Lib.hid (hst.2.2.row (show (w1.drew).heap[gm]? = _ from HY.out) (by decide))
  have HST := Lib.hid ((HST.out.later (Below.refl w1.heap.size w1).drew).trans hst)
  clear hst cx cy hI
  have cx := fun j => cell_of_row w2 g j _ _ _ HX.out
  have cy := fun j => cell_of_row w2 gm j _ _ _ HY.out
  go_wp2_with fail
  go_still_tail 9, (by kernel_rfl)
  change wpList _ _ _ _ _ (w2.drew)
  go_wp2_with fail
  have hI := HST.out.1.below (Below.refl w2.heap.size w2).drew
  refine (pdayW 146 78 _ _ g gm 3 base bw _ _ d hd (by omega) (w2.drew) HX.out HY.out rfl rfl (by decide) (by decide) hI).mono ?_
  rintro e w3 ⟨rfl, hst⟩
  have HX := Lib.hid (hst.2.2.row (show (w2.drew).heap[g]? = _ from HX.out) (by decide))
  have HY := Lib.hid (hst.2.2.row (show (w2.drew).heap[gm]? = _ from HY.out) (by decide))
  have HST := Lib.hid ((HST.out.later (Below.refl w2.heap.size w2).drew).trans hst)
  clear hst cx cy hI
  have cx := fun j => cell_of_row w3 g j _ _ _ HX.out
  have cy := fun j => cell_of_row w3 gm j _ _ _ HY.out
  go_wp2_with fail
  go_still_tail 9, (by kernel_rfl)
  change wpList _ _ _ _ _ (w3.drew)
  go_wp2_with fail
  have hI := HST.out.1.below (Below.refl w3.heap.size w3).drew
  refine (pflightW 146 78 _ _ g gm 5 base bw _ _ fl dy va hfl hdy hva (by omega) (w3.drew) HX.out HY.out rfl rfl (by decide) (by decide) hI rfl rfl).mono ?_
  rintro e w4 ⟨rfl, hst⟩
  have HX := Lib.hid (hst.2.2.row (show (w3.drew).heap[g]? = _ from HX.out) (by decide))
  have HY := Lib.hid (hst.2.2.row (show (w3.drew).heap[gm]? = _ from HY.out) (by decide))
  have HST := Lib.hid ((HST.out.later (Below.refl w3.heap.size w3).drew).trans hst)
  clear hst cx cy hI
  have cx := fun j => cell_of_row w4 g j _ _ _ HX.out
  have cy := fun j => cell_of_row w4 gm j _ _ _ HY.out
  go_wp2_with fail
  refine (pweighsW 146 _ g bw w4 HX.out rfl).mono ?_
  rintro e w' ⟨rfl, rfl⟩
  go_wp2
  first | go_end0 | refine bodyPost_ret (results_none rfl _ _ _) rfl ?_
  exact ⟨rfl, HST.out⟩

set_option maxRecDepth 10000 in
set_option maxHeartbeats 2000000 in
theorem mrunRO (g gm base br : Nat) (st : Option (List UInt8)) (gd : Bool) (k tk c d co fl dy va sa ho nx : Int) (h3 : ¬ k = 3) (h2 : ¬ k = 2) (w : World) (hx : w.heap[g]? = some (.cells #[.pointer none, .pointer (some ⟨br, 0, none⟩), .bool gd, .pointer (some ⟨gm, 0, none⟩)] 146 (0, 0))) (hy : w.heap[gm]? = some (.cells #[.int .i64 k, .int .u64 tk, .int .i64 c, .int .i64 d, .int .i64 co, .int .i64 fl, .int .i64 dy, .int .i64 va, .int .i64 sa, .int .i64 ho, .int .u64 nx] 78 (0, 0))) (hne : g ≠ gm) (hb : base ≤ gm) (h : IsR w base br st) :
    Calls Tryz.prog 81 #[.pointer (some ⟨g, 0, none⟩)] w fun e w' => e = .returned (.tuple #[]) ∧ GS w w' base br (rNumS (rNumS (rNumS st 8) 1) 4) gm 78 #[.int .i64 k, .int .u64 (rNumV st 8 : Int), .int .i64 (rNumV (rNumS st 8) 1 : Int), .int .i64 (rNumV (rNumS (rNumS st 8) 1) 4 : Int), .int .i64 co, .int .i64 fl, .int .i64 dy, .int .i64 va, .int .i64 sa, .int .i64 ho, .int .u64 nx] := by
  have HX := Lib.hid hx; have HY := Lib.hid hy; have HI := Lib.hid h; have HLT := Lib.hid h.lt; have HNE := Lib.hid hne; have HBB := Lib.hid hb
  have HG : Hid (GS w w base br st gm 78 #[.int .i64 k, .int .u64 tk, .int .i64 c, .int .i64 d, .int .i64 co, .int .i64 fl, .int .i64 dy, .int .i64 va, .int .i64 sa, .int .i64 ho, .int .u64 nx]) := Lib.hid ⟨h, hy, KeptB.refl _ _, Below.refl _ _⟩
  have cx := fun j => cell_of_row w g j _ _ _ hx
  have cy := fun j => cell_of_row w gm j _ _ _ hy
  clear hx hy h hne hb
  go_enter Tryz.func81, Tryz.ntmps81
  go_wp2_with fail
  go_still_tail 9, (by kernel_rfl)
  change wpList _ _ _ _ _ (w.drew)
  go_wp2_with fail
  have hI := HG.out.i.below (Below.refl w.heap.size w).drew
  refine (pticketR 146 78 _ _ g gm 1 base br _ tk (w.drew) HX.out HY.out rfl rfl rfl (by decide) HBB.out hI).mono ?_
  rintro e w1 ⟨rfl, hg⟩
  have HX := Lib.hid (hg.k.block _ _ _ _ HNE.out (show (w.drew).heap[g]? = _ from HX.out) (by decide))
  have HY := Lib.hid hg.r
  have HG := Lib.hid ((HG.out.later (Below.refl w.heap.size w).drew).trans hg)
  clear hg cx cy hI
  have cx := fun j => cell_of_row w1 g j _ _ _ HX.out
  have cy := fun j => cell_of_row w1 gm j _ _ _ HY.out
  go_wp2_with fail
  go_still_tail 9, (by kernel_rfl)
  change wpList _ _ _ _ _ (w1.drew)
  go_wp2_with fail
  have hI := HG.out.i.below (Below.refl w1.heap.size w1).drew
  refine (pplaceR 146 78 _ _ g gm 2 base br _ c (w1.drew) HX.out HY.out rfl rfl rfl (by decide) HBB.out hI).mono ?_
  rintro e w2 ⟨rfl, hg⟩
  have HX := Lib.hid (hg.k.block _ _ _ _ HNE.out (show (w1.drew).heap[g]? = _ from HX.out) (by decide))
  have HY := Lib.hid hg.r
  have HG := Lib.hid ((HG.out.later (Below.refl w1.heap.size w1).drew).trans hg)
  clear hg cx cy hI
  have cx := fun j => cell_of_row w2 g j _ _ _ HX.out
  have cy := fun j => cell_of_row w2 gm j _ _ _ HY.out
  go_wp2_with fail
  go_still_tail 9, (by kernel_rfl)
  change wpList _ _ _ _ _ (w2.drew)
  go_wp2_with fail
  have hI := HG.out.i.below (Below.refl w2.heap.size w2).drew
  refine (pdayR 146 78 _ _ g gm 3 base br _ d (w2.drew) HX.out HY.out rfl rfl rfl (by decide) HBB.out hI).mono ?_
  rintro e w3 ⟨rfl, hg⟩
  have HX := Lib.hid (hg.k.block _ _ _ _ HNE.out (show (w2.drew).heap[g]? = _ from HX.out) (by decide))
  have HY := Lib.hid hg.r
  have HG := Lib.hid ((HG.out.later (Below.refl w2.heap.size w2).drew).trans hg)
  clear hg cx cy hI
  have cx := fun j => cell_of_row w3 g j _ _ _ HX.out
  have cy := fun j => cell_of_row w3 gm j _ _ _ HY.out
  go_wp2
  first | go_end0 | refine bodyPost_ret (results_none rfl _ _ _) rfl ?_
  exact ⟨rfl, HG.out⟩

set_option maxRecDepth 10000 in
set_option maxHeartbeats 2000000 in
theorem mrunRD (g gm base br : Nat) (st : Option (List UInt8)) (gd : Bool) (tk c d co fl dy va sa ho nx : Int) (w : World) (hx : w.heap[g]? = some (.cells #[.pointer none, .pointer (some ⟨br, 0, none⟩), .bool gd, .pointer (some ⟨gm, 0, none⟩)] 146 (0, 0))) (hy : w.heap[gm]? = some (.cells #[.int .i64 3, .int .u64 tk, .int .i64 c, .int .i64 d, .int .i64 co, .int .i64 fl, .int .i64 dy, .int .i64 va, .int .i64 sa, .int .i64 ho, .int .u64 nx] 78 (0, 0))) (hne : g ≠ gm) (hb : base ≤ gm) (h : IsR w base br st) :
    Calls Tryz.prog 81 #[.pointer (some ⟨g, 0, none⟩)] w fun e w' => e = .returned (.tuple #[]) ∧ GS w w' base br (rNumS (rNumS (rNumS st 8) 1) 1) gm 78 #[.int .i64 3, .int .u64 (rNumV st 8 : Int), .int .i64 (rNumV (rNumS st 8) 1 : Int), .int .i64 d, .int .i64 (rNumV (rNumS (rNumS st 8) 1) 1 : Int), .int .i64 fl, .int .i64 dy, .int .i64 va, .int .i64 sa, .int .i64 ho, .int .u64 nx] := by
  have HX := Lib.hid hx; have HY := Lib.hid hy; have HI := Lib.hid h; have HLT := Lib.hid h.lt; have HNE := Lib.hid hne; have HBB := Lib.hid hb
  have HG : Hid (GS w w base br st gm 78 #[.int .i64 3, .int .u64 tk, .int .i64 c, .int .i64 d, .int .i64 co, .int .i64 fl, .int .i64 dy, .int .i64 va, .int .i64 sa, .int .i64 ho, .int .u64 nx]) := Lib.hid ⟨h, hy, KeptB.refl _ _, Below.refl _ _⟩
  have cx := fun j => cell_of_row w g j _ _ _ hx
  have cy := fun j => cell_of_row w gm j _ _ _ hy
  clear hx hy h hne hb
  go_enter Tryz.func81, Tryz.ntmps81
  go_wp2_with fail
  go_still_tail 9, (by kernel_rfl)
  change wpList _ _ _ _ _ (w.drew)
  go_wp2_with fail
  have hI := HG.out.i.below (Below.refl w.heap.size w).drew
  refine (pticketR 146 78 _ _ g gm 1 base br _ tk (w.drew) HX.out HY.out rfl rfl rfl (by decide) HBB.out hI).mono ?_
  rintro e w1 ⟨rfl, hg⟩
  have HX := Lib.hid (hg.k.block _ _ _ _ HNE.out (show (w.drew).heap[g]? = _ from HX.out) (by decide))
  have HY := Lib.hid hg.r
  have HG := Lib.hid ((HG.out.later (Below.refl w.heap.size w).drew).trans hg)
  clear hg cx cy hI
  have cx := fun j => cell_of_row w1 g j _ _ _ HX.out
  have cy := fun j => cell_of_row w1 gm j _ _ _ HY.out
  go_wp2_with fail
  go_still_tail 9, (by kernel_rfl)
  change wpList _ _ _ _ _ (w1.drew)
  go_wp2_with fail
  have hI := HG.out.i.below (Below.refl w1.heap.size w1).drew
  refine (pplaceR 146 78 _ _ g gm 2 base br _ c (w1.drew) HX.out HY.out rfl rfl rfl (by decide) HBB.out hI).mono ?_
  rintro e w2 ⟨rfl, hg⟩
  have HX := Lib.hid (hg.k.block _ _ _ _ HNE.out (show (w1.drew).heap[g]? = _ from HX.out) (by decide))
  have HY := Lib.hid hg.r
  have HG := Lib.hid ((HG.out.later (Below.refl w1.heap.size w1).drew).trans hg)
  clear hg cx cy hI
  have cx := fun j => cell_of_row w2 g j _ _ _ HX.out
  have cy := fun j => cell_of_row w2 gm j _ _ _ HY.out
  go_wp2_with fail
  have hm := new_rowW w2 (.cells #[.int .i64 co] 3) _ rfl
  have hbn := (Below.refl w2.heap.size w2).alloc (Nat.le_refl _) (.cells #[.int .i64 co] 3)
  have hlt := HG.out.i.lt
  refine (pnumR 146 3 _ _ g w2.heap.size 0 base br _ co 1 1 17 _ (row_allocW HX.out _) hm rfl rfl rfl (by decide) (by omega) (HG.out.i.below hbn)).mono ?_
  rintro e w3 ⟨rfl, hg⟩
  have hz : IntKind.i64.wrap (rNumV (rNumS (rNumS st 8) 1) ((1 : Nat) : Int) : Int) = (rNumV (rNumS (rNumS st 8) 1) 1 : Int) := by have h2 : rNumV (rNumS (rNumS st 8) 1) ((1 : Nat) : Int) < 256 := rNumV_lt _ 1; rw [IntKind.wrap_i64]; show _ = (rNumV (rNumS (rNumS st 8) 1) ((1 : Nat) : Int) : Int); omega
  rw [hz] at hg
  clear hz
  have km := fun j => cell_of_row w3 w2.heap.size j _ _ _ hg.r
  have HX1 := Lib.hid (hg.k.block _ _ _ _ (by have := block_lt HX.out; omega) (row_allocW HX.out _) (by decide))
  have HY1 := Lib.hid (hg.k.block _ _ _ _ (by have := block_lt HY.out; omega) (row_allocW HY.out _) (by decide))
  have hg2 := GS.of_box (o := 4) (v := .int .i64 (rNumV (rNumS (rNumS st 8) 1) 1 : Int)) hbn hg (Nat.le_refl _) HY.out (by decide) HBB.out (by omega)
  have HG := Lib.hid (HG.out.trans hg2)
  clear hm hbn hg hg2 cx cy hlt
  have cx := fun j => cell_of_row w3 g j _ _ _ HX1.out
  have cy := fun j => cell_of_row w3 gm j _ _ _ HY1.out
  have kf := fun j => frozen_of_row w3 gm j _ _ HY1.out
  obtain ⟨zc, hzc⟩ : ∃ z, (rNumV (rNumS (rNumS st 8) 1) 1 : Int) = z := ⟨_, rfl⟩
  rw [hzc] at HG km
  have HZC := Lib.hid hzc
  clear hzc
  go_wp2_with fail
  go_still_tail 7, (by kernel_rfl)
  change wpList _ _ _ _ _ (w3.drew)
  go_wp2
  first | go_end0 | refine bodyPost_ret (results_none rfl _ _ _) rfl ?_
  rw [HZC.out]
  exact ⟨rfl, HG.out.later (Below.refl _ _).drew⟩

set_option maxRecDepth 10000 in
set_option maxHeartbeats 2000000 in
theorem mrunRG (g gm base br : Nat) (st : Option (List UInt8)) (gd : Bool) (tk c d co fl dy va sa ho nx : Int) (w : World) (hx : w.heap[g]? = some (.cells #[.pointer none, .pointer (some ⟨br, 0, none⟩), .bool gd, .pointer (some ⟨gm, 0, none⟩)] 146 (0, 0))) (hy : w.heap[gm]? = some (.cells #[.int .i64 2, .int .u64 tk, .int .i64 c, .int .i64 d, .int .i64 co, .int .i64 fl, .int .i64 dy, .int .i64 va, .int .i64 sa, .int .i64 ho, .int .u64 nx] 78 (0, 0))) (hne : g ≠ gm) (hb : base ≤ gm) (h : IsR w base br st) :
    Calls Tryz.prog 81 #[.pointer (some ⟨g, 0, none⟩)] w fun e w' => e = .returned (.tuple #[]) ∧ GS w w' base br (rNumS (rNumS (rNumS (rNumS (rNumS (rNumS st 8) 1) 4) 2) 4) 8) gm 78 #[.int .i64 2, .int .u64 (rNumV st 8 : Int), .int .i64 (rNumV (rNumS st 8) 1 : Int), .int .i64 (rNumV (rNumS (rNumS st 8) 1) 4 : Int), .int .i64 co, .int .i64 (rNumV (rNumS (rNumS (rNumS st 8) 1) 4) 2 : Int), .int .i64 (rNumV (rNumS (rNumS (rNumS (rNumS st 8) 1) 4) 2) 4 : Int), .int .i64 (wrap64 (rNumV (rNumS (rNumS (rNumS (rNumS (rNumS st 8) 1) 4) 2) 4) 8 : Int)), .int .i64 1, .int .i64 ho, .int .u64 nx] := by
  have HX := Lib.hid hx; have HY := Lib.hid hy; have HI := Lib.hid h; have HLT := Lib.hid h.lt; have HNE := Lib.hid hne; have HBB := Lib.hid hb
  have HG : Hid (GS w w base br st gm 78 #[.int .i64 2, .int .u64 tk, .int .i64 c, .int .i64 d, .int .i64 co, .int .i64 fl, .int .i64 dy, .int .i64 va, .int .i64 sa, .int .i64 ho, .int .u64 nx]) := Lib.hid ⟨h, hy, KeptB.refl _ _, Below.refl _ _⟩
  have cx := fun j => cell_of_row w g j _ _ _ hx
  have cy := fun j => cell_of_row w gm j _ _ _ hy
  clear hx hy h hne hb
  go_enter Tryz.func81, Tryz.ntmps81
  go_wp2_with fail
  go_still_tail 9, (by kernel_rfl)
  change wpList _ _ _ _ _ (w.drew)
  go_wp2_with fail
  have hI := HG.out.i.below (Below.refl w.heap.size w).drew
  refine (pticketR 146 78 _ _ g gm 1 base br _ tk (w.drew) HX.out HY.out rfl rfl rfl (by decide) HBB.out hI).mono ?_
  rintro e w1 ⟨rfl, hg⟩
  have HX := Lib.hid (hg.k.block _ _ _ _ HNE.out (show (w.drew).heap[g]? = _ from HX.out) (by decide))
  have HY := Lib.hid hg.r
  have HG := Lib.hid ((HG.out.later (Below.refl w.heap.size w).drew).trans hg)
  clear hg cx cy hI
  have cx := fun j => cell_of_row w1 g j _ _ _ HX.out
  have cy := fun j => cell_of_row w1 gm j _ _ _ HY.out
  go_wp2_with fail
  go_still_tail 9, (by kernel_rfl)
  change wpList _ _ _ _ _ (w1.drew)
  go_wp2_with fail
  have hI := HG.out.i.below (Below.refl w1.heap.size w1).drew
  refine (pplaceR 146 78 _ _ g gm 2 base br _ c (w1.drew) HX.out HY.out rfl rfl rfl (by decide) HBB.out hI).mono ?_
  rintro e w2 ⟨rfl, hg⟩
  have HX := Lib.hid (hg.k.block _ _ _ _ HNE.out (show (w1.drew).heap[g]? = _ from HX.out) (by decide))
  have HY := Lib.hid hg.r
  have HG := Lib.hid ((HG.out.later (Below.refl w1.heap.size w1).drew).trans hg)
  clear hg cx cy hI
  have cx := fun j => cell_of_row w2 g j _ _ _ HX.out
  have cy := fun j => cell_of_row w2 gm j _ _ _ HY.out
  go_wp2_with fail
  go_still_tail 9, (by kernel_rfl)
  change wpList _ _ _ _ _ (w2.drew)
  go_wp2_with fail
  have hI := HG.out.i.below (Below.refl w2.heap.size w2).drew
  refine (pdayR 146 78 _ _ g gm 3 base br _ d (w2.drew) HX.out HY.out rfl rfl rfl (by decide) HBB.out hI).mono ?_
  rintro e w3 ⟨rfl, hg⟩
  have HX := Lib.hid (hg.k.block _ _ _ _ HNE.out (show (w2.drew).heap[g]? = _ from HX.out) (by decide))
  have HY := Lib.hid hg.r
  have HG := Lib.hid ((HG.out.later (Below.refl w2.heap.size w2).drew).trans hg)
  clear hg cx cy hI
  have cx := fun j => cell_of_row w3 g j _ _ _ HX.out
  have cy := fun j => cell_of_row w3 gm j _ _ _ HY.out
  go_wp2_with fail
  go_still_tail 9, (by kernel_rfl)
  change wpList _ _ _ _ _ (w3.drew)
  go_wp2_with fail
  have hI := HG.out.i.below (Below.refl w3.heap.size w3).drew
  refine (pflightR 146 78 _ _ g gm 5 base br _ fl dy va (w3.drew) HX.out HY.out rfl rfl rfl (by decide) HBB.out hI rfl rfl (by decide) HNE.out).mono ?_
  rintro e w4 ⟨rfl, hg⟩
  have HX := Lib.hid (hg.k.block _ _ _ _ HNE.out (show (w3.drew).heap[g]? = _ from HX.out) (by decide))
  have HY := Lib.hid hg.r
  have HG := Lib.hid ((HG.out.later (Below.refl w3.heap.size w3).drew).trans hg)
  clear hg cx cy hI
  have cx := fun j => cell_of_row w4 g j _ _ _ HX.out
  have cy := fun j => cell_of_row w4 gm j _ _ _ HY.out
  go_wp2_with fail
  refine (pweighsR 146 _ g br w4 HX.out rfl rfl).mono ?_
  rintro e w' ⟨rfl, rfl⟩
  have kf := fun j => frozen_of_row w4 gm j _ _ HY.out
  go_wp2
  first | go_end0 | refine bodyPost_ret (results_none rfl _ _ _) rfl ?_
  exact ⟨rfl, HG.out.put (by decide) HBB.out 8 _⟩

end Go.Proofs.YtbmphlpmipkpcaaGreat
