/- The writer's contracts where all has room. Contracts: how a request's parts are put (the ways of package request, with a writer). -/
import Derived.Test.YtbmphlpmipkpcaaGreatRnm13
import Derived.Test.YtbmphlpmipkpcaaGreatRnm6
import Derived.StillTailTactics
import Derived.Deep.Cut

section
set_option linter.unusedVariables false
set_option linter.unusedSimpArgs false
namespace Go.Proofs.YtbmphlpmipkpcaaGreat
open Go.RowKit

theorem IsW.drewE {w : World} {base bw k : Nat} {st : Option (List UInt8)} (h : IsW w base bw k st) : IsW w.drew base bw k st := h.below (Below.refl _ _).drew
theorem wnum_okE {L : List UInt8} {N k : Nat} (hk : k = 1 ∨ k = 2 ∨ k = 4 ∨ k = 8) (hN : N < 256 ^ k) : Wire.wNum (some L) N (k : Int) = some (L ++ Wire.be N k) := by
  unfold Wire.wNum
  rw [if_pos ⟨by rcases hk with rfl | rfl | rfl | rfl <;> rfl, by rw [Int.toNat_natCast]; exact hN⟩, Int.toNat_natCast]; rfl
theorem wint_okE {W : World} {base bw k : Nat} {L : List UInt8} (h : IsW W base bw k (some L)) (hk : k + 9 ≤ 536870912) (n : Int) :
    Calls Tryz.prog 152 #[.pointer (some ⟨bw, 0, none⟩), .int .i64 n] W fun e w' => e = .returned (.pointer (some ⟨bw, 0, none⟩)) ∧ WStep W w' base bw (k + 9) (some (L ++ Wire.be (u64 n) 8)) := by
  have := wint_any _ _ _ _ n hk W h
  rwa [show (8 : Int) = ((8 : Nat) : Int) from rfl, wnum_okE (by decide) (u64_lt n)] at this
theorem wnumber_okE {W : World} {base bw k : Nat} {L : List UInt8} (h : IsW W base bw k (some L)) (hk : k + 9 ≤ 536870912) (N : Nat) (s : Int) (hz : s = 1 ∨ s = 2 ∨ s = 4 ∨ s = 8) (hN : N < 256 ^ s.toNat) :
    Calls Tryz.prog 77 #[.pointer (some ⟨bw, 0, none⟩), .int .u64 (N : Int), .int .i64 s] W fun e w' => e = .returned (.pointer (some ⟨bw, 0, none⟩)) ∧ WStep W w' base bw (k + 9) (some (L ++ Wire.be N s.toNat)) := by
  obtain ⟨z, rfl⟩ := Int.eq_ofNat_of_zero_le (show 0 ≤ s by omega)
  rw [Int.toNat_natCast] at hN ⊢
  have hz' : z = 1 ∨ z = 2 ∨ z = 4 ∨ z = 8 := by omega
  have h256 : N < 18446744073709551616 := Nat.lt_of_lt_of_le hN (by rcases hz' with rfl | rfl | rfl | rfl <;> decide)
  have := wnumber_any _ _ _ _ N h256 (z : Int) hk W h
  rwa [wnum_okE hz' hN] at this
end Go.Proofs.YtbmphlpmipkpcaaGreat
end

section
set_option linter.unusedVariables false
set_option linter.unusedSimpArgs false
namespace Go.Proofs.YtbmphlpmipkpcaaGreat
open Go.RowKit

set_option maxRecDepth 4000 in
set_option maxHeartbeats 1000000 in
theorem pnumW (T U : TypeId) (cs ds : Array Value) (g b o base bw k : Nat) (l : List UInt8) (N s : Nat) (lo hi : Int) (hs : s = 1 ∨ s = 2 ∨ s = 4 ∨ s = 8) (hN : N < 256 ^ s) (hk : k + 9 ≤ 536870912) (w : World) (hx : w.heap[g]? = some (.cells cs T (0, 0))) (hy : w.heap[b]? = some (.cells ds U (0, 0))) (h0 : cs[0]? = some (.pointer (some ⟨bw, 0, none⟩))) (hv : ds[o]? = some (.int .i64 (N : Int))) (hT : T ∉ WT) (hU : U ∉ WT) (h : IsW w base bw k (some l)) :
    Calls Tryz.prog 146 #[.pointer (some ⟨g, 0, none⟩), .pointer (some ⟨b, o, none⟩), .int .i64 (s : Int), .int .i64 lo, .int .i64 hi] w fun e w' => e = .returned (.tuple #[]) ∧ WStep w w' base bw (k + 9) (some (l ++ Wire.be N s)) := by
  have c0 : w.cell? ⟨g, 0, none⟩ = some (.pointer (some ⟨bw, 0, none⟩)) := (cell_of_row w g 0 _ _ _ hx).trans h0
  have d0 : w.cell? ⟨b, o, none⟩ = some (.int .i64 (N : Int)) := (cell_of_row w b o _ _ _ hy).trans hv
  have hN64 : N < 18446744073709551616 := Nat.lt_of_lt_of_le hN (by rcases hs with rfl | rfl | rfl | rfl <;> decide)
  have hwu : IntKind.u64.wrap (N : Int) = (N : Int) := by rw [IntKind.wrap_u64]; omega
  have HS := Lib.hid hs; have HN := Lib.hid hN
  clear hN64 hs hN
  have HW := Lib.hid (h.below (Below.refl w.heap.size w).drew)
  have HLT := Lib.hid h.lt
  clear hx hy h0 hv hT hU h
  go_enter Tryz.func146, Tryz.ntmps146
  go_wp2_with fail
  go_still_tail 9, (by kernel_rfl)
  change wpList _ _ _ _ _ (w.drew)
  go_wp2_with fail
  refine (wnumber_okE HW.out (by omega) N (s : Int) (by have := HS.out; omega) (by rw [Int.toNat_natCast]; exact HN.out)).mono ?_
  rintro e w1 ⟨rfl, hst⟩
  have HST := Lib.hid hst
  clear hst
  go_wp2
  first | go_end0 | refine bodyPost_ret (results_none rfl _ _ _) rfl ?_
  exact ⟨rfl, WStep.pre (Below.refl w.heap.size w).drew (by have := HLT.out; omega) HST.out⟩

set_option maxRecDepth 4000 in
set_option maxHeartbeats 1000000 in
theorem pticketW (T U : TypeId) (cs ds : Array Value) (g b o base bw k : Nat) (l : List UInt8) (N : Nat) (hN : N < 18446744073709551616) (hk : k + 9 ≤ 536870912) (w : World) (hx : w.heap[g]? = some (.cells cs T (0, 0))) (hy : w.heap[b]? = some (.cells ds U (0, 0))) (h0 : cs[0]? = some (.pointer (some ⟨bw, 0, none⟩))) (hv : ds[o]? = some (.int .u64 (N : Int))) (hT : T ∉ WT) (hU : U ∉ WT) (h : IsW w base bw k (some l)) :
    Calls Tryz.prog 112 #[.pointer (some ⟨g, 0, none⟩), .pointer (some ⟨b, o, none⟩)] w fun e w' => e = .returned (.tuple #[]) ∧ WStep w w' base bw (k + 9) (some (l ++ Wire.be N 8)) := by
  have c0 : w.cell? ⟨g, 0, none⟩ = some (.pointer (some ⟨bw, 0, none⟩)) := (cell_of_row w g 0 _ _ _ hx).trans h0
  have d0 : w.cell? ⟨b, o, none⟩ = some (.int .u64 (N : Int)) := (cell_of_row w b o _ _ _ hy).trans hv
  have HW := Lib.hid (h.below (Below.refl w.heap.size w).drew)
  have HLT := Lib.hid h.lt
  clear hx hy h0 hv hT hU h
  go_enter Tryz.func112, Tryz.ntmps112
  go_wp2_with fail
  go_still_tail 7, (by kernel_rfl)
  change wpList _ _ _ _ _ (w.drew)
  go_wp2_with fail
  refine (wnumber_okE HW.out (by omega) N 8 (by decide) hN).mono ?_
  rintro e w1 ⟨rfl, hst⟩
  have HST := Lib.hid hst
  clear hst
  go_wp2
  first | go_end0 | refine bodyPost_ret (results_none rfl _ _ _) rfl ?_
  exact ⟨rfl, WStep.pre (Below.refl w.heap.size w).drew (by have := HLT.out; omega) HST.out⟩

set_option maxRecDepth 4000 in
set_option maxHeartbeats 1000000 in
theorem pdayW (T U : TypeId) (cs ds : Array Value) (g b o base bw k : Nat) (l : List UInt8) (N : Nat) (hN : N < 4294967296) (hk : k + 9 ≤ 536870912) (w : World) (hx : w.heap[g]? = some (.cells cs T (0, 0))) (hy : w.heap[b]? = some (.cells ds U (0, 0))) (h0 : cs[0]? = some (.pointer (some ⟨bw, 0, none⟩))) (hv : ds[o]? = some (.int .i64 (N : Int))) (hT : T ∉ WT) (hU : U ∉ WT) (h : IsW w base bw k (some l)) :
    Calls Tryz.prog 147 #[.pointer (some ⟨g, 0, none⟩), .pointer (some ⟨b, o, none⟩)] w fun e w' => e = .returned (.tuple #[]) ∧ WStep w w' base bw (k + 9) (some (l ++ Wire.be N 4)) := by
  have HC := Lib.hid (pnumW T U cs ds g b o base bw k l N 4 0 1000000 (by decide) (by simpa using hN) hk w hx hy h0 hv hT hU h)
  clear hx hy h0 hv hT hU h hN
  go_enter Tryz.func147, Tryz.ntmps147
  go_wp2_with (go_at_call 146; refine HC.out.mono ?_; rintro e w1 ⟨rfl, hst⟩)
  first | go_end0 | refine bodyPost_ret (results_none rfl _ _ _) rfl ?_
  exact ⟨rfl, hst⟩

set_option maxRecDepth 4000 in
set_option maxHeartbeats 1000000 in
theorem pplaceW (T U : TypeId) (cs ds : Array Value) (g b o base bw k : Nat) (l : List UInt8) (N : Nat) (hN : N < 256) (hk : k + 9 ≤ 536870912) (w : World) (hx : w.heap[g]? = some (.cells cs T (0, 0))) (hy : w.heap[b]? = some (.cells ds U (0, 0))) (h0 : cs[0]? = some (.pointer (some ⟨bw, 0, none⟩))) (hv : ds[o]? = some (.int .i64 (N : Int))) (hT : T ∉ WT) (hU : U ∉ WT) (h : IsW w base bw k (some l)) :
    Calls Tryz.prog 113 #[.pointer (some ⟨g, 0, none⟩), .pointer (some ⟨b, o, none⟩)] w fun e w' => e = .returned (.tuple #[]) ∧ WStep w w' base bw (k + 9) (some (l ++ Wire.be N 1)) := by
  have HC := Lib.hid (pnumW T U cs ds g b o base bw k l N 1 1 4 (by decide) (by simpa using hN) hk w hx hy h0 hv hT hU h)
  clear hx hy h0 hv hT hU h hN
  go_enter Tryz.func113, Tryz.ntmps113
  go_wp2_with (go_at_call 146; refine HC.out.mono ?_; rintro e w1 ⟨rfl, hst⟩)
  first | go_end0 | refine bodyPost_ret (results_none rfl _ _ _) rfl ?_
  exact ⟨rfl, hst⟩

set_option maxRecDepth 4000 in
set_option maxHeartbeats 1000000 in
theorem pmoneyW (T U : TypeId) (cs ds : Array Value) (g b o base bw k : Nat) (l : List UInt8) (N : Nat) (hN : N < 9223372036854775808) (hk : k + 9 ≤ 536870912) (w : World) (hx : w.heap[g]? = some (.cells cs T (0, 0))) (hy : w.heap[b]? = some (.cells ds U (0, 0))) (h0 : cs[0]? = some (.pointer (some ⟨bw, 0, none⟩))) (hv : ds[o]? = some (.int .i64 (N : Int))) (hT : T ∉ WT) (hU : U ∉ WT) (h : IsW w base bw k (some l)) :
    Calls Tryz.prog 184 #[.pointer (some ⟨g, 0, none⟩), .pointer (some ⟨b, o, none⟩)] w fun e w' => e = .returned (.tuple #[]) ∧ WStep w w' base bw (k + 9) (some (l ++ Wire.be N 8)) := by
  have d0 : w.cell? ⟨b, o, none⟩ = some (.int .i64 (N : Int)) := (cell_of_row w b o _ _ _ hy).trans hv
  have hbl := block_lt hy
  have HB := Lib.hid ((Below.refl w.heap.size w).alloc (Nat.le_refl _) (.cells #[.int .i64 (N : Int)] 3))
  have HW := Lib.hid (h.below HB.out)
  have HX := Lib.hid (row_allocW hx (.cells #[.int .i64 (N : Int)] 3))
  have HY := Lib.hid (row_allocW hy (.cells #[.int .i64 (N : Int)] 3))
  have HM := Lib.hid (new_rowW w (.cells #[.int .i64 (N : Int)] 3) _ rfl)
  have H0 := Lib.hid h0; have HV := Lib.hid hv; have HT := Lib.hid hT; have HU := Lib.hid hU; have HLT := Lib.hid h.lt
  clear hx hy h0 hv hT hU h
  go_enter Tryz.func184, Tryz.ntmps184
  go_upto_region 1 with fail
  clear d0 hbl
  generalize w.alloc (.cells #[.int .i64 (N : Int)] 3) = w1 at *
  generalize hm : w.heap.size = m at *
  have HMW := Lib.hid hm
  clear hm
  go_wp2_with fail
  refine (pnumW T 3 cs _ g m 0 base bw k l N 8 0 1000000000000 (by decide) (by show N < 18446744073709551616; omega) hk w1 HX.out HM.out H0.out rfl HT.out (by decide) HW.out).mono ?_
  rintro e w2 ⟨rfl, hst⟩
  have HST := Lib.hid hst
  have HY2 := Lib.hid (hst.2.2.row HY.out HU.out)
  have HM2 := Lib.hid (hst.2.2.row HM.out (by decide))
  clear hst
  have km := fun j => cell_of_row w2 m j _ _ _ HM2.out
  have kn : w2.cell? ⟨b, o, none⟩ = some (.int .i64 (N : Int)) := (cell_of_row _ _ o _ _ _ HY2.out).trans HV.out
  have kf := fun j => frozen_of_row w2 b j _ _ HY2.out
  have HID := Lib.hid (setCell_id HY2.out HV.out)
  go_wp2
  first | go_end0 | refine bodyPost_ret (results_none rfl _ _ _) rfl ?_
  refine ⟨rfl, ?_⟩
  rw [HID.out]
  exact WStep.pre (by rw [HMW.out]; exact HB.out) (by have := HLT.out; have := HMW.out; omega) HST.out

set_option maxRecDepth 4000 in
set_option maxHeartbeats 2000000 in
theorem pflightW (T U : TypeId) (cs ds : Array Value) (g b o base bw k : Nat) (l : List UInt8) (F D V : Nat) (hF : F < 65536) (hD : D < 4294967296) (hVV : V < 9223372036854775808) (hk : k + 27 ≤ 536870912) (w : World) (hx : w.heap[g]? = some (.cells cs T (0, 0))) (hy : w.heap[b]? = some (.cells ds U (0, 0))) (h0 : cs[0]? = some (.pointer (some ⟨bw, 0, none⟩))) (hv : ds[o]? = some (.int .i64 (F : Int))) (hT : T ∉ WT) (hU : U ∉ WT) (h : IsW w base bw k (some l)) (hd1 : ds[o + 1]? = some (.int .i64 (D : Int))) (hd2 : ds[o + 2]? = some (.int .i64 (V : Int))) :
    Calls Tryz.prog 116 #[.pointer (some ⟨g, 0, none⟩), .pointer (some ⟨b, o, none⟩)] w fun e w' => e = .returned (.tuple #[]) ∧ WStep w w' base bw (k + 9 + 9 + 9) (some (((l ++ Wire.be F 2) ++ Wire.be D 4) ++ Wire.be V 8)) := by
  have HX := Lib.hid hx; have HY := Lib.hid hy
  have H0 := Lib.hid h0; have HT := Lib.hid hT; have HU := Lib.hid hU; have HD1 := Lib.hid hd1; have HD2 := Lib.hid hd2
  have HC := Lib.hid (pnumW T U cs ds g b o base bw k l F 2 1 9999 (by decide) (by simpa using hF) (by omega) w hx hy h0 hv hT hU h)
  clear hx hy h0 hv hT hU h hd1 hd2 hF
  go_enter Tryz.func116, Tryz.ntmps116
  go_wp2_with fail
  refine HC.out.mono ?_
  rintro e w1 ⟨rfl, hst⟩
  have HX1 := Lib.hid (hst.2.2.row HX.out HT.out)
  have HY1 := Lib.hid (hst.2.2.row HY.out HU.out)
  have HST := Lib.hid hst
  clear hst
  go_wp2_with fail
  refine (pdayW T U cs ds g b (o + 1) base bw _ _ D hD (by omega) w1 HX1.out HY1.out H0.out HD1.out HT.out HU.out HST.out.1).mono ?_
  rintro e w2 ⟨rfl, hst⟩
  have HX2 := Lib.hid (hst.2.2.row HX1.out HT.out)
  have HY2 := Lib.hid (hst.2.2.row HY1.out HU.out)
  have HST := Lib.hid (HST.out.trans hst)
  clear hst
  go_wp2_with fail
  refine (pmoneyW T U cs ds g b (o + 2) base bw _ _ V hVV (by omega) w2 HX2.out HY2.out H0.out HD2.out HT.out HU.out HST.out.1).mono ?_
  rintro e w3 ⟨rfl, hst⟩
  have HST := Lib.hid (HST.out.trans hst)
  clear hst
  go_wp2
  first | go_end0 | refine bodyPost_ret (results_none rfl _ _ _) rfl ?_
  exact ⟨rfl, HST.out⟩

end Go.Proofs.YtbmphlpmipkpcaaGreat
end
