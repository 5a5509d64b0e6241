/- Contracts: how a request's parts are taken (the ways of package request, with a reader). -/
import Derived.Test.YtbmphlpmipkpcaaGreatRnm35
import Derived.StillTailTactics
import Derived.Deep.Cut

set_option linter.unusedVariables false
set_option linter.unusedSimpArgs false
namespace Go.Proofs.YtbmphlpmipkpcaaGreat
open Go.RowKit

set_option maxRecDepth 4000 in
set_option maxHeartbeats 1000000 in
theorem pnumR (T U : TypeId) (cs ds : Array Value) (g b o base br : Nat) (st : Option (List UInt8)) (v0 : Int) (s : Nat) (lo hi : Int) (w : World) (hx : w.heap[g]? = some (.cells cs T (0, 0))) (hy : w.heap[b]? = some (.cells ds U (0, 0))) (h0 : cs[0]? = some (.pointer none)) (h1 : cs[1]? = some (.pointer (some ⟨br, 0, none⟩))) (hv : ds[o]? = some (.int .i64 v0)) (hU : U ∉ RU) (hb : base ≤ b) (h : IsR w base br st) :
    Calls Tryz.prog 146 #[.pointer (some ⟨g, 0, none⟩), .pointer (some ⟨b, o, none⟩), .int .i64 (s : Int), .int .i64 lo, .int .i64 hi] w fun e w' => e = .returned (.tuple #[]) ∧ GS w w' base br (rNumS st s) b U (ds.setIfInBounds o (.int .i64 (IntKind.i64.wrap (rNumV st s : Int)))) := by
  have c0 : w.cell? ⟨g, 0, none⟩ = some (.pointer none) := (cell_of_row w g 0 _ _ _ hx).trans h0
  have c1 : w.cell? ⟨g, 1, none⟩ = some (.pointer (some ⟨br, 0, none⟩)) := (cell_of_row w g 1 _ _ _ hx).trans h1
  obtain ⟨z, hz⟩ : ∃ z, IntKind.i64.wrap (rNumV st s : Int) = z := ⟨_, rfl⟩
  rw [hz]
  have HN1 := Lib.hid hy; have HV := Lib.hid hv; have HTY := Lib.hid hU; have HBB := Lib.hid hb; have HI := Lib.hid h
  clear hx hy h0 h1 hv hU hb h
  go_enter Tryz.func146, Tryz.ntmps146
  go_wp2_with fail
  refine (rnumber_any base br st (s : Int) _ HI.out).mono ?_
  rintro e w2 ⟨rfl, hst⟩
  have HST := Lib.hid hst
  have HN2 := Lib.hid (hst.2.2.row HN1.out (ru_rt HTY.out))
  clear hst c0 c1
  have kn := (cell_of_row _ _ o _ _ _ HN2.out).trans HV.out
  have kf := fun j => frozen_of_row w2 b j _ _ HN2.out
  go_wp2
  first | go_end0 | refine bodyPost_ret (results_none rfl _ _ _) rfl ?_
  exact ⟨rfl, GS.of_step HST.out HN1.out HTY.out HBB.out o _⟩

set_option maxRecDepth 4000 in
set_option maxHeartbeats 1000000 in
theorem pticketR (T U : TypeId) (cs ds : Array Value) (g b o base br : Nat) (st : Option (List UInt8)) (v0 : Int)  (w : World) (hx : w.heap[g]? = some (.cells cs T (0, 0))) (hy : w.heap[b]? = some (.cells ds U (0, 0))) (h0 : cs[0]? = some (.pointer none)) (h1 : cs[1]? = some (.pointer (some ⟨br, 0, none⟩))) (hv : ds[o]? = some (.int .u64 v0)) (hU : U ∉ RU) (hb : base ≤ b) (h : IsR w base br st) :
    Calls Tryz.prog 112 #[.pointer (some ⟨g, 0, none⟩), .pointer (some ⟨b, o, none⟩)] w fun e w' => e = .returned (.tuple #[]) ∧ GS w w' base br (rNumS st 8) b U (ds.setIfInBounds o (.int .u64 (rNumV st 8 : Int))) := by
  have c0 : w.cell? ⟨g, 0, none⟩ = some (.pointer none) := (cell_of_row w g 0 _ _ _ hx).trans h0
  have c1 : w.cell? ⟨g, 1, none⟩ = some (.pointer (some ⟨br, 0, none⟩)) := (cell_of_row w g 1 _ _ _ hx).trans h1
  have HN1 := Lib.hid hy; have HV := Lib.hid hv; have HTY := Lib.hid hU; have HBB := Lib.hid hb; have HI := Lib.hid h
  clear hx hy h0 h1 hv hU hb h
  go_enter Tryz.func112, Tryz.ntmps112
  go_wp2_with fail
  refine (rnumber_any base br st 8 _ HI.out).mono ?_
  rintro e w2 ⟨rfl, hst⟩
  have HST := Lib.hid hst
  have HN2 := Lib.hid (hst.2.2.row HN1.out (ru_rt HTY.out))
  clear hst c0 c1
  have kn := (cell_of_row _ _ o _ _ _ HN2.out).trans HV.out
  have kf := fun j => frozen_of_row w2 b j _ _ HN2.out
  go_wp2
  first | go_end0 | refine bodyPost_ret (results_none rfl _ _ _) rfl ?_
  exact ⟨rfl, GS.of_step HST.out HN1.out HTY.out HBB.out o _⟩

set_option maxRecDepth 4000 in
set_option maxHeartbeats 1000000 in
theorem pdayR (T U : TypeId) (cs ds : Array Value) (g b o base br : Nat) (st : Option (List UInt8)) (v0 : Int)  (w : World) (hx : w.heap[g]? = some (.cells cs T (0, 0))) (hy : w.heap[b]? = some (.cells ds U (0, 0))) (h0 : cs[0]? = some (.pointer none)) (h1 : cs[1]? = some (.pointer (some ⟨br, 0, none⟩))) (hv : ds[o]? = some (.int .i64 v0)) (hU : U ∉ RU) (hb : base ≤ b) (h : IsR w base br st) :
    Calls Tryz.prog 147 #[.pointer (some ⟨g, 0, none⟩), .pointer (some ⟨b, o, none⟩)] w fun e w' => e = .returned (.tuple #[]) ∧ GS w w' base br (rNumS st 4) b U (ds.setIfInBounds o (.int .i64 (rNumV st 4 : Int))) := by
  have HC := Lib.hid (pnumR T U cs ds g b o base br st v0 4 0 1000000 w hx hy h0 h1 hv hU hb h)
  have hlt : rNumV st ((4 : Nat) : Int) < 256 ^ 4 := rNumV_lt st 4
  have hw : IntKind.i64.wrap (rNumV st ((4 : Nat) : Int) : Int) = (rNumV st ((4 : Nat) : Int) : Int) := by rw [IntKind.wrap_i64]; have h2 : rNumV st ((4 : Nat) : Int) < 4294967296 := hlt; omega
  rw [hw] at HC
  clear hx hy h0 h1 hv hU h hb hlt hw
  go_enter Tryz.func147, Tryz.ntmps147
  go_wp2_with (go_at_call 146; refine HC.out.mono ?_; rintro e w1 ⟨rfl, hst⟩)
  first | go_end0 | refine bodyPost_ret (results_none rfl _ _ _) rfl ?_
  exact ⟨rfl, hst⟩

set_option maxRecDepth 4000 in
set_option maxHeartbeats 1000000 in
theorem pplaceR (T U : TypeId) (cs ds : Array Value) (g b o base br : Nat) (st : Option (List UInt8)) (v0 : Int)  (w : World) (hx : w.heap[g]? = some (.cells cs T (0, 0))) (hy : w.heap[b]? = some (.cells ds U (0, 0))) (h0 : cs[0]? = some (.pointer none)) (h1 : cs[1]? = some (.pointer (some ⟨br, 0, none⟩))) (hv : ds[o]? = some (.int .i64 v0)) (hU : U ∉ RU) (hb : base ≤ b) (h : IsR w base br st) :
    Calls Tryz.prog 113 #[.pointer (some ⟨g, 0, none⟩), .pointer (some ⟨b, o, none⟩)] w fun e w' => e = .returned (.tuple #[]) ∧ GS w w' base br (rNumS st 1) b U (ds.setIfInBounds o (.int .i64 (rNumV st 1 : Int))) := by
  have HC := Lib.hid (pnumR T U cs ds g b o base br st v0 1 1 4 w hx hy h0 h1 hv hU hb h)
  have hlt : rNumV st ((1 : Nat) : Int) < 256 ^ 1 := rNumV_lt st 1
  have hw : IntKind.i64.wrap (rNumV st ((1 : Nat) : Int) : Int) = (rNumV st ((1 : Nat) : Int) : Int) := by rw [IntKind.wrap_i64]; have h2 : rNumV st ((1 : Nat) : Int) < 256 := hlt; omega
  rw [hw] at HC
  clear hx hy h0 h1 hv hU h hb hlt hw
  go_enter Tryz.func113, Tryz.ntmps113
  go_wp2_with (go_at_call 146; refine HC.out.mono ?_; rintro e w1 ⟨rfl, hst⟩)
  first | go_end0 | refine bodyPost_ret (results_none rfl _ _ _) rfl ?_
  exact ⟨rfl, hst⟩

set_option maxRecDepth 4000 in
set_option maxHeartbeats 1000000 in
theorem pmoneyR (T U : TypeId) (cs ds : Array Value) (g b o base br : Nat) (st : Option (List UInt8)) (v0 : Int)  (w : World) (hx : w.heap[g]? = some (.cells cs T (0, 0))) (hy : w.heap[b]? = some (.cells ds U (0, 0))) (h0 : cs[0]? = some (.pointer none)) (h1 : cs[1]? = some (.pointer (some ⟨br, 0, none⟩))) (hv : ds[o]? = some (.int .i64 v0)) (hU : U ∉ RU) (hb : base ≤ b) (h : IsR w base br st) :
    Calls Tryz.prog 184 #[.pointer (some ⟨g, 0, none⟩), .pointer (some ⟨b, o, none⟩)] w fun e w' => e = .returned (.tuple #[]) ∧ GS w w' base br (rNumS st 8) b U (ds.setIfInBounds o (.int .i64 (wrap64 (rNumV st 8 : Int)))) := by
  obtain ⟨z, hz⟩ : ∃ z, wrap64 (rNumV st 8 : Int) = z := ⟨_, rfl⟩
  rw [hz]
  have HZ : Hid (IntKind.i64.wrap (rNumV st ((8 : Nat) : Int) : Int) = z) := Lib.hid (by rw [← hz]; unfold wrap64; rw [IntKind.wrap_i64]; simp)
  clear hz
  have d0 : w.cell? ⟨b, o, none⟩ = some (.int .i64 v0) := (cell_of_row w b o _ _ _ hy).trans hv
  have hbl := block_lt hy
  have HB := Lib.hid ((Below.refl w.heap.size w).alloc (Nat.le_refl _) (.cells #[.int .i64 v0] 3))
  have HI := Lib.hid (h.below HB.out)
  have HX := Lib.hid (row_allocW hx (.cells #[.int .i64 v0] 3))
  have HYY := Lib.hid hy
  have HM := Lib.hid (new_rowW w (.cells #[.int .i64 v0] 3) _ rfl)
  have H0 := Lib.hid h0; have H1 := Lib.hid h1; have HV := Lib.hid hv; have HU := Lib.hid hU; have HLT := Lib.hid h.lt; have HBB := Lib.hid hb
  have HWZ : Hid (∀ w2 : World, w2 = w2) := Lib.hid (fun _ => rfl)
  clear hx hy h0 h1 hv hU h hb
  go_enter Tryz.func184, Tryz.ntmps184
  go_upto_region 1 with fail
  clear d0 hbl
  generalize w.alloc (.cells #[.int .i64 v0] 3) = w1 at *
  generalize hm : w.heap.size = m at *
  have HMW := Lib.hid hm
  clear hm
  go_wp2_with fail
  refine (pnumR T 3 cs _ g m 0 base br st v0 8 0 1000000000000 w1 HX.out HM.out H0.out H1.out rfl (by decide) (by have := HLT.out; have := HMW.out; omega) HI.out).mono ?_
  rintro e w2 ⟨rfl, hg⟩
  rw [HZ.out] at hg
  have HG := Lib.hid hg
  have HM2 := Lib.hid hg.r
  have HY2 := Lib.hid (hg.k.block _ _ _ _ (by have := block_lt HYY.out; have := HMW.out; omega) ((HB.out.block _ (by have := block_lt HYY.out; have := HMW.out; omega)).trans HYY.out) (ru_rt HU.out))
  clear hg
  have km := fun j => cell_of_row w2 m j _ _ _ HM2.out
  have kn : w2.cell? ⟨b, o, none⟩ = some (.int .i64 v0) := (cell_of_row _ _ o _ _ _ HY2.out).trans HV.out
  have kf := fun j => frozen_of_row w2 b j _ _ HY2.out
  go_wp2
  first | go_end0 | refine bodyPost_ret (results_none rfl _ _ _) rfl ?_
  skip
  exact ⟨rfl, GS.of_box (by rw [HMW.out]; exact HB.out) HG.out (by have := HMW.out; omega) HYY.out HU.out HBB.out (by have := HLT.out; have := HMW.out; omega) o _⟩

set_option maxRecDepth 4000 in
set_option maxHeartbeats 2000000 in
theorem pflightR (T U : TypeId) (cs ds : Array Value) (g b o base br : Nat) (st : Option (List UInt8)) (v0 : Int) (v1 v2 : Int) (w : World) (hx : w.heap[g]? = some (.cells cs T (0, 0))) (hy : w.heap[b]? = some (.cells ds U (0, 0))) (h0 : cs[0]? = some (.pointer none)) (h1 : cs[1]? = some (.pointer (some ⟨br, 0, none⟩))) (hv : ds[o]? = some (.int .i64 v0)) (hU : U ∉ RU) (hb : base ≤ b) (h : IsR w base br st) (hd1 : ds[o + 1]? = some (.int .i64 v1)) (hd2 : ds[o + 2]? = some (.int .i64 v2)) (hT : T ∉ RT) (hne : g ≠ b) :
    Calls Tryz.prog 116 #[.pointer (some ⟨g, 0, none⟩), .pointer (some ⟨b, o, none⟩)] w fun e w' => e = .returned (.tuple #[]) ∧ GS w w' base br (rNumS (rNumS (rNumS st 2) 4) 8) b U (((ds.setIfInBounds o (.int .i64 (rNumV st 2 : Int))).setIfInBounds (o + 1) (.int .i64 (rNumV (rNumS st 2) 4 : Int))).setIfInBounds (o + 2) (.int .i64 (wrap64 (rNumV (rNumS (rNumS st 2) 4) 8 : Int)))) := by
  have HX := Lib.hid hx
  have H0 := Lib.hid h0; have H1 := Lib.hid h1; have HT := Lib.hid hT; have HU := Lib.hid hU; have HBB := Lib.hid hb; have HD1 := Lib.hid hd1; have HD2 := Lib.hid hd2; have HNE := Lib.hid hne
  have HC := Lib.hid (pnumR T U cs ds g b o base br st v0 2 1 9999 w hx hy h0 h1 hv hU hb h)
  have hlt : rNumV st ((2 : Nat) : Int) < 256 ^ 2 := rNumV_lt st 2
  have hw : IntKind.i64.wrap (rNumV st ((2 : Nat) : Int) : Int) = (rNumV st ((2 : Nat) : Int) : Int) := by rw [IntKind.wrap_i64]; have h2 : rNumV st ((2 : Nat) : Int) < 65536 := hlt; omega
  rw [hw] at HC
  clear hx hy h0 h1 hv hU h hb hlt hw hd1 hd2 hT hne
  go_enter Tryz.func116, Tryz.ntmps116
  go_wp2_with fail
  refine HC.out.mono ?_
  rintro e w1 ⟨rfl, hg⟩
  have HX1 := Lib.hid (hg.k.block _ _ _ _ HNE.out HX.out HT.out)
  have HG := Lib.hid hg
  clear hg
  go_wp2_with fail
  refine (pdayR T U cs _ g b (o + 1) base br _ v1 w1 HX1.out HG.out.r H0.out H1.out (by rw [Array.getElem?_setIfInBounds_ne (by omega)]; exact HD1.out) HU.out HBB.out HG.out.i).mono ?_
  rintro e w2 ⟨rfl, hg⟩
  have HX2 := Lib.hid (hg.k.block _ _ _ _ HNE.out HX1.out HT.out)
  have HG := Lib.hid (HG.out.trans hg)
  clear hg
  go_wp2_with fail
  refine (pmoneyR T U cs _ g b (o + 2) base br _ v2 w2 HX2.out HG.out.r H0.out H1.out (by rw [Array.getElem?_setIfInBounds_ne (by omega), Array.getElem?_setIfInBounds_ne (by omega)]; exact HD2.out) HU.out HBB.out HG.out.i).mono ?_
  rintro e w3 ⟨rfl, hg⟩
  have HG := Lib.hid (HG.out.trans hg)
  clear hg
  go_wp2
  first | go_end0 | refine bodyPost_ret (results_none rfl _ _ _) rfl ?_
  exact ⟨rfl, HG.out⟩

end Go.Proofs.YtbmphlpmipkpcaaGreat
