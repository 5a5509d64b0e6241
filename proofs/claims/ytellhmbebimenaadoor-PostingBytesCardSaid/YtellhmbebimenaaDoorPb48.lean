/- Contract of posting.Of. -/
import Derived.Test.YtellhmbebimenaaDoorPb42
import Derived.Deep.RegionHeld3

set_option linter.unusedVariables false
set_option linter.unusedSimpArgs false
namespace Go.Proofs.YtellhmbebimenaaDoor
open Go.RowKit

theorem IsR.keptU {T : List TypeId} (h1 : 156 ∉ T) (h2 : 5 ∉ T) {w w' : World} {base br : Nat} {st : Option (List UInt8)} (h : IsR w base br st) (hk : Kept T w w') : IsR w' base br st := by
  obtain ⟨hb, g, cap, a, bad, L, r1, r2, h3⟩ := h
  refine ⟨hb, g, cap, a, bad, L, hk.block _ _ _ _ r1 h1, ?_, h3⟩
  obtain ⟨hl, hor⟩ := r2
  refine ⟨hl, ?_⟩
  rcases hor with h | ⟨g', cap', cur, e, hg, hh, h4⟩
  · exact .inl h
  · exact .inr ⟨g', cap', cur, e, hg, hk.block _ _ _ _ hh h2, h4⟩
theorem p_store {wB W : World} {base bx br : Nat} {cs : Array Value} {st : Option (List UInt8)} (h : IsR W base br st) (hrow : W.heap[bx]? = some (.cells cs 49 (0, 0))) (hb : base ≤ bx) (hB : Below base wB W) (i : Nat) (v : Value) :
    IsR (W.setCell ⟨bx, i, none⟩ v) base br st ∧ (W.setCell ⟨bx, i, none⟩ v).heap[bx]? = some (.cells (cs.setIfInBounds i v) 49 (0, 0)) ∧ Below base wB (W.setCell ⟨bx, i, none⟩ v) :=
  ⟨h.keptU (T := [49]) (by decide) (by decide) ((Kept.refl _ _).setCell hrow (by simp) _), heap_setCell_same _ _ _ _ _ _ hrow, hB.setCell hb _⟩

def rowJ (vv : Nat → Int → Int) (j : Nat) : Array Value := #[.int .i64 (vv 10 4), .int .u64 (vv 0 8), .int .i64 (vv 8 2), .int .i64 (vv 14 1), .int .i64 (if 0 < j then wrap64 (vv 15 8) else 0), .int .i64 (if 1 < j then wrap64 (vv 23 8) else 0), .int .i64 (if 2 < j then wrap64 (vv 31 8) else 0), .int .i64 (if 3 < j then wrap64 (vv 39 8) else 0), .int .i64 (if 4 < j then wrap64 (vv 47 8) else 0), .int .i64 (if 5 < j then wrap64 (vv 55 8) else 0)]

set_option maxRecDepth 4000 in
set_option maxHeartbeats 4000000 in
theorem pOf_any (v : Value) (b : List UInt8) (hlen : b.length ≤ 1000) (w : World) (hv : BS w v b) :
    Calls Tryd.prog 30 #[v] w fun e w' => e = .returned (.tuple #[.agg (if b.length = 63 ∧ (pOf b).may = true then pOf b else zeroP).cells.toArray, .int .i64 (if b.length = 63 ∧ (pOf b).may = true then 0 else 4)]) ∧ Below w.heap.size w w' := by
  obtain ⟨vv, hvv⟩ : ∃ vv : Nat → Int → Int, vv = fun o k => ((vAt b o k.toNat : Nat) : Int) := ⟨_, rfl⟩
  obtain ⟨ST, hST⟩ : ∃ ST : Nat → Option (List UInt8), ST = stAt b := ⟨_, rfl⟩
  have HNU : Hid (∀ (W : World) (base br o : Nat) (k : Int), (k = 1 ∨ k = 2 ∨ k = 4 ∨ k = 8) → IsR W base br (ST o) → Calls Tryd.prog 54 #[.pointer (some ⟨br, 0, none⟩), .int .i64 k] W fun e w' => e = .returned (.int .u64 (vv o k)) ∧ RStep W w' base br (ST (o + k.toNat))) := Lib.hid (fun W base br o k hk h => by
    obtain ⟨z, rfl⟩ := Int.eq_ofNat_of_zero_le (show 0 ≤ k by omega)
    rw [hST] at h ⊢
    have := rnumber_any base br _ (z : Int) W h
    rw [stAt_num b o z (by omega)] at this
    rw [hvv]
    exact this)
  have HIN : Hid (∀ (W : World) (base br o : Nat), IsR W base br (ST o) → Calls Tryd.prog 77 #[.pointer (some ⟨br, 0, none⟩)] W fun e w' => e = .returned (.int .i64 (wrap64 (vv o 8))) ∧ RStep W w' base br (ST (o + 8))) := Lib.hid (fun W base br o h => by
    rw [hST] at h ⊢
    have := rint_any base br _ W h
    rw [show (8 : Int) = ((8 : Nat) : Int) from rfl, stAt_num b o 8 (by omega)] at this
    rw [hvv]
    exact this)
  have hb0 : ∀ (o k : Nat), 0 ≤ vv o (k : Int) ∧ vv o (k : Int) < (256 ^ k : Nat) := fun o k => by
    rw [hvv]
    have := vAt_lt b o k
    exact ⟨by show (0 : Int) ≤ ((vAt b o k : Nat) : Int); omega, by show ((vAt b o k : Nat) : Int) < _; exact Int.ofNat_lt.2 this⟩
  have b1 : 0 ≤ vv 0 8 ∧ vv 0 8 < 18446744073709551616 := hb0 0 8
  have b2 : 0 ≤ vv 8 2 ∧ vv 8 2 < 65536 := hb0 8 2
  have b3 : 0 ≤ vv 10 4 ∧ vv 10 4 < 4294967296 := hb0 10 4
  have b4 : 0 ≤ vv 14 1 ∧ vv 14 1 < 256 := hb0 14 1
  have z2 : IntKind.i64.wrap (vv 8 2) = vv 8 2 := by rw [IntKind.wrap_i64]; omega
  have z3 : IntKind.i64.wrap (vv 10 4) = vv 10 4 := by rw [IntKind.wrap_i64]; omega
  have z4 : IntKind.i64.wrap (vv 14 1) = vv 14 1 := by rw [IntKind.wrap_i64]; omega
  have HP : Hid (pOf b = ⟨vv 10 4, vv 0 8, vv 8 2, vv 14 1, wrap64 (vv 15 8), wrap64 (vv 23 8), wrap64 (vv 31 8), wrap64 (vv 39 8), wrap64 (vv 47 8), wrap64 (vv 55 8)⟩) := Lib.hid (by rw [hvv]; rfl)
  have HEND : Hid (ST 63 = some [] ↔ b.length = 63) := Lib.hid (by rw [hST]; exact stAt_end b)
  have HS0 : Hid (some b = ST 0) := Lib.hid (by rw [hST, stAt_zero])
  have HRD := Lib.hid (fun W h => read_any v b (by omega) W h)
  rw [HS0.out] at HRD
  have HV := Lib.hid hv
  clear hb0 hvv hST
  obtain ⟨p, cap, rfl, g1, g2, -⟩ := hv
  generalize b.length = m at *
  obtain ⟨RA, hRA⟩ : ∃ RA, RA = (if m = 63 ∧ (pOf b).may = true then pOf b else zeroP).cells.toArray := ⟨_, rfl⟩
  obtain ⟨RC, hRC⟩ : ∃ RC : Int, RC = if m = 63 ∧ (pOf b).may = true then 0 else 4 := ⟨_, rfl⟩
  rw [← hRA, ← hRC]
  have HRA' := Lib.hid hRA
  have HRC' := Lib.hid hRC
  clear hRA hRC
  go_enter Tryd.func30, Tryd.ntmps30
  go_wp2_with fail
  have hrz0 : (w.alloc (.cells #[.int .i64 0, .int .u64 0, .int .i64 0, .int .i64 0, .int .i64 0, .int .i64 0, .int .i64 0, .int .i64 0, .int .i64 0, .int .i64 0] 49)).heap[w.heap.size]? = some (.cells #[.int .i64 0, .int .u64 0, .int .i64 0, .int .i64 0, .int .i64 0, .int .i64 0, .int .i64 0, .int .i64 0, .int .i64 0, .int .i64 0] 49 (0, 0)) := new_rowW _ _ _ rfl
  have HBZ := Lib.hid ((Below.refl w.heap.size w).alloc (Nat.le_refl _) (.cells #[.int .i64 0, .int .u64 0, .int .i64 0, .int .i64 0, .int .i64 0, .int .i64 0, .int .i64 0, .int .i64 0, .int .i64 0, .int .i64 0] 49))
  have HVZ := Lib.hid (HV.out.alloc (.cells #[.int .i64 0, .int .u64 0, .int .i64 0, .int .i64 0, .int .i64 0, .int .i64 0, .int .i64 0, .int .i64 0, .int .i64 0, .int .i64 0] 49))
  generalize w.alloc (.cells #[.int .i64 0, .int .u64 0, .int .i64 0, .int .i64 0, .int .i64 0, .int .i64 0, .int .i64 0, .int .i64 0, .int .i64 0, .int .i64 0] 49) = W0 at *
  have hlz : w.heap.size < W0.heap.size := block_lt hrz0
  refine (HRD.out _ HVZ.out).mono ?_
  rintro e w1 ⟨br, rfl, hr, hb1⟩
  have HI1 := Lib.hid hr
  have HB1 := Lib.hid hb1
  have HRZ := Lib.hid hrz0
  clear hr hb1 hrz0
  go_wp2_with fail
  have hbx := HB1.out.size
  have HIA := Lib.hid (HI1.out.below ((Below.refl w1.heap.size w1).alloc (Nat.le_refl _) (.cells #[.int .i64 0, .int .u64 0, .int .i64 0, .int .i64 0, .int .i64 0, .int .i64 0, .int .i64 0, .int .i64 0, .int .i64 0, .int .i64 0] 49)))
  have HBA := Lib.hid (HB1.out.alloc hbx (.cells #[.int .i64 0, .int .u64 0, .int .i64 0, .int .i64 0, .int .i64 0, .int .i64 0, .int .i64 0, .int .i64 0, .int .i64 0, .int .i64 0] 49))
  have HRA : Hid ((w1.alloc (.cells #[.int .i64 0, .int .u64 0, .int .i64 0, .int .i64 0, .int .i64 0, .int .i64 0, .int .i64 0, .int .i64 0, .int .i64 0, .int .i64 0] 49)).heap[w1.heap.size]? = some (.cells #[.int .i64 0, .int .u64 0, .int .i64 0, .int .i64 0, .int .i64 0, .int .i64 0, .int .i64 0, .int .i64 0, .int .i64 0, .int .i64 0] 49 (0, 0))) := Lib.hid (new_rowW _ _ _ rfl)
  generalize w1.alloc (.cells #[.int .i64 0, .int .u64 0, .int .i64 0, .int .i64 0, .int .i64 0, .int .i64 0, .int .i64 0, .int .i64 0, .int .i64 0, .int .i64 0] 49) = A at *
  generalize w1.heap.size = bx at *
  refine (HNU.out A W0.heap.size br 0 8 (by decide) HIA.out).mono ?_
  rintro e x2 ⟨rfl, hr⟩
  have HI2 : Hid (IsR x2 W0.heap.size br (ST 8)) := Lib.hid hr.1
  have HB2 := Lib.hid (HBA.out.trans hr.2.1)
  have HR2 := Lib.hid (hr.2.2.block _ _ _ _ HRA.out (by decide))
  clear hr
  go_wp2_with fail
  refine (HNU.out x2 W0.heap.size br 8 2 (by decide) HI2.out).mono ?_
  rintro e x3 ⟨rfl, hr⟩
  have HI3 : Hid (IsR x3 W0.heap.size br (ST 10)) := Lib.hid hr.1
  have HB3 := Lib.hid (HB2.out.trans hr.2.1)
  have HR3 := Lib.hid (hr.2.2.block _ _ _ _ HR2.out (by decide))
  clear hr
  have hc3 := fun j => cell_of_row x3 bx j _ _ _ HR3.out
  have hf3 := fun j => frozen_of_row x3 bx j _ _ HR3.out
  have hs0 := p_store HI3.out HR3.out hbx HB3.out 1 (.int .u64 (vv 0 8))
  have hs1 := p_store hs0.1 hs0.2.1 hbx hs0.2.2 2 (.int .i64 (vv 8 2))
  have HIC := Lib.hid hs1.1
  have HBC := Lib.hid hs1.2.2
  have HRC : Hid (((x3.setCell ⟨bx, 1, none⟩ (.int .u64 (vv 0 8))).setCell ⟨bx, 2, none⟩ (.int .i64 (vv 8 2))).heap[bx]? = some (.cells #[.int .i64 (0), .int .u64 (vv 0 8), .int .i64 (vv 8 2), .int .i64 (0), .int .i64 0, .int .i64 0, .int .i64 0, .int .i64 0, .int .i64 0, .int .i64 0] 49 (0, 0))) := Lib.hid hs1.2.1
  clear hs0 hs1
  go_wp2_with fail
  clear hc3 hf3
  generalize ((x3.setCell ⟨bx, 1, none⟩ (.int .u64 (vv 0 8))).setCell ⟨bx, 2, none⟩ (.int .i64 (vv 8 2))) = C at *
  refine (HNU.out C W0.heap.size br 10 4 (by decide) HIC.out).mono ?_
  rintro e x4 ⟨rfl, hr⟩
  have HI4 : Hid (IsR x4 W0.heap.size br (ST 14)) := Lib.hid hr.1
  have HB4 := Lib.hid (HBC.out.trans hr.2.1)
  have HR4 := Lib.hid (hr.2.2.block _ _ _ _ HRC.out (by decide))
  clear hr
  go_wp2_with fail
  refine (HNU.out x4 W0.heap.size br 14 1 (by decide) HI4.out).mono ?_
  rintro e x5 ⟨rfl, hr⟩
  have HI5 : Hid (IsR x5 W0.heap.size br (ST 15)) := Lib.hid hr.1
  have HB5 := Lib.hid (HB4.out.trans hr.2.1)
  have HR5 := Lib.hid (hr.2.2.block _ _ _ _ HR4.out (by decide))
  clear hr
  have hc5 := fun j => cell_of_row x5 bx j _ _ _ HR5.out
  have hf5 := fun j => frozen_of_row x5 bx j _ _ HR5.out
  have hs0 := p_store HI5.out HR5.out hbx HB5.out 0 (.int .i64 (vv 10 4))
  have hs1 := p_store hs0.1 hs0.2.1 hbx hs0.2.2 3 (.int .i64 (vv 14 1))
  have HID := Lib.hid hs1.1
  have HBD := Lib.hid hs1.2.2
  have HRD : Hid (((x5.setCell ⟨bx, 0, none⟩ (.int .i64 (vv 10 4))).setCell ⟨bx, 3, none⟩ (.int .i64 (vv 14 1))).heap[bx]? = some (.cells #[.int .i64 (vv 10 4), .int .u64 (vv 0 8), .int .i64 (vv 8 2), .int .i64 (vv 14 1), .int .i64 0, .int .i64 0, .int .i64 0, .int .i64 0, .int .i64 0, .int .i64 0] 49 (0, 0))) := Lib.hid hs1.2.1
  clear hs0 hs1
  go_wp2_with fail
  clear hc5 hf5
  have hDs : ((x5.setCell ⟨bx, 0, none⟩ (.int .i64 (vv 10 4))).setCell ⟨bx, 3, none⟩ (.int .i64 (vv 14 1))).heap.size = x5.heap.size := by simp
  generalize ((x5.setCell ⟨bx, 0, none⟩ (.int .i64 (vv 10 4))).setCell ⟨bx, 3, none⟩ (.int .i64 (vv 14 1))) = D at *
  go_loopw [33] (fun i wr => ∃ j : Nat, j ≤ 6 ∧ i = .int .i64 j ∧ IsR wr W0.heap.size br (ST (15 + 8 * j)) ∧ Below W0.heap.size W0 wr ∧ wr.heap[bx]? = some (.cells (rowJ vv j) 49 (0, 0)) ∧ ∃ t, t ≠ 156 ∧ x5.heap.size ≠ bx ∧ wr.heap[x5.heap.size]? = some (.cells #[.pointer (some ⟨bx, 4, none⟩), .pointer (some ⟨bx, 5, none⟩), .pointer (some ⟨bx, 6, none⟩), .pointer (some ⟨bx, 7, none⟩), .pointer (some ⟨bx, 8, none⟩), .pointer (some ⟨bx, 9, none⟩)] t (0, 0))) (fun i _ => 6 - (intOf i).toNat)
  case atStart => exact ⟨0, by omega, rfl, HID.out.below ((Below.refl D.heap.size D).alloc (Nat.le_refl _) _), HBD.out.alloc (by have := HBD.out.size; omega) _, row_allocW HRD.out _, _, by decide, by have := block_lt HRD.out; omega, new_rowW _ _ _ hDs.symm⟩
  case round =>
    obtain ⟨j, hj, rfl, hisr, hbw, hrow, t, ht, hne, hptr⟩ := hrel
    have HIJ := Lib.hid hisr
    have HBJ := Lib.hid hbw
    have HRJ := Lib.hid hrow
    have HPT := Lib.hid hptr
    have HT := Lib.hid ht
    have HNE := Lib.hid hne
    have hcp := fun i => cell_of_row wr x5.heap.size i _ _ _ hptr
    clear hisr hbw hrow hptr ht hne
    rcases (by omega : j = 0 ∨ j = 1 ∨ j = 2 ∨ j = 3 ∨ j = 4 ∨ j = 5 ∨ j = 6) with rfl | rfl | rfl | rfl | rfl | rfl | rfl
    · have HRQ : Hid (wr.heap[bx]? = some (.cells #[.int .i64 (vv 10 4), .int .u64 (vv 0 8), .int .i64 (vv 8 2), .int .i64 (vv 14 1), .int .i64 0, .int .i64 0, .int .i64 0, .int .i64 0, .int .i64 0, .int .i64 0] 49 (0, 0))) := Lib.hid HRJ.out
      have hnext : (15 + 8 * 0 : Nat) = 15 := rfl
      have HIQ : Hid (IsR wr W0.heap.size br (ST 15)) := Lib.hid HIJ.out
      clear HIJ HRJ
      go_wp2_with fail
      refine (HIN.out wr W0.heap.size br 15 HIQ.out).mono ?_
      rintro e y ⟨rfl, hr⟩
      have HIY : Hid (IsR y W0.heap.size br (ST 23)) := Lib.hid hr.1
      have HBY := Lib.hid (HBJ.out.trans hr.2.1)
      have HRY := Lib.hid (hr.2.2.block _ _ _ _ HRQ.out (by decide))
      have HPY := Lib.hid (hr.2.2.block _ _ _ _ HPT.out (by simp [RT]; exact HT.out))
      clear hr hcp
      have hc := fun j => cell_of_row y bx j _ _ _ HRY.out
      have hf := fun j => frozen_of_row y bx j _ _ HRY.out
      have hs := p_store HIY.out HRY.out hbx HBY.out 4 (.int .i64 (wrap64 (vv 15 8)))
      have HIS := Lib.hid hs.1
      have HBS := Lib.hid hs.2.2
      have HRS : Hid ((y.setCell ⟨bx, 4, none⟩ (.int .i64 (wrap64 (vv 15 8)))).heap[bx]? = some (.cells #[.int .i64 (vv 10 4), .int .u64 (vv 0 8), .int .i64 (vv 8 2), .int .i64 (vv 14 1), .int .i64 (wrap64 (vv 15 8)), .int .i64 0, .int .i64 0, .int .i64 0, .int .i64 0, .int .i64 0] 49 (0, 0))) := Lib.hid hs.2.1
      have HPS := Lib.hid ((heap_setCell_other y ⟨bx, 4, none⟩ x5.heap.size (.int .i64 (wrap64 (vv 15 8))) (by exact HNE.out)).trans HPY.out)
      clear hs
      go_wp2
      go_roundw
      case rel => exact ⟨1, by omega, by go_num, HIS.out, HBS.out, HRS.out, t, HT.out, HNE.out, HPS.out⟩
      case measure => simp [intOf]
    · have HRQ : Hid (wr.heap[bx]? = some (.cells #[.int .i64 (vv 10 4), .int .u64 (vv 0 8), .int .i64 (vv 8 2), .int .i64 (vv 14 1), .int .i64 (wrap64 (vv 15 8)), .int .i64 0, .int .i64 0, .int .i64 0, .int .i64 0, .int .i64 0] 49 (0, 0))) := Lib.hid HRJ.out
      have hnext : (15 + 8 * 1 : Nat) = 23 := rfl
      have HIQ : Hid (IsR wr W0.heap.size br (ST 23)) := Lib.hid HIJ.out
      clear HIJ HRJ
      go_wp2_with fail
      refine (HIN.out wr W0.heap.size br 23 HIQ.out).mono ?_
      rintro e y ⟨rfl, hr⟩
      have HIY : Hid (IsR y W0.heap.size br (ST 31)) := Lib.hid hr.1
      have HBY := Lib.hid (HBJ.out.trans hr.2.1)
      have HRY := Lib.hid (hr.2.2.block _ _ _ _ HRQ.out (by decide))
      have HPY := Lib.hid (hr.2.2.block _ _ _ _ HPT.out (by simp [RT]; exact HT.out))
      clear hr hcp
      have hc := fun j => cell_of_row y bx j _ _ _ HRY.out
      have hf := fun j => frozen_of_row y bx j _ _ HRY.out
      have hs := p_store HIY.out HRY.out hbx HBY.out 5 (.int .i64 (wrap64 (vv 23 8)))
      have HIS := Lib.hid hs.1
      have HBS := Lib.hid hs.2.2
      have HRS : Hid ((y.setCell ⟨bx, 5, none⟩ (.int .i64 (wrap64 (vv 23 8)))).heap[bx]? = some (.cells #[.int .i64 (vv 10 4), .int .u64 (vv 0 8), .int .i64 (vv 8 2), .int .i64 (vv 14 1), .int .i64 (wrap64 (vv 15 8)), .int .i64 (wrap64 (vv 23 8)), .int .i64 0, .int .i64 0, .int .i64 0, .int .i64 0] 49 (0, 0))) := Lib.hid hs.2.1
      have HPS := Lib.hid ((heap_setCell_other y ⟨bx, 5, none⟩ x5.heap.size (.int .i64 (wrap64 (vv 23 8))) (by exact HNE.out)).trans HPY.out)
      clear hs
      go_wp2
      go_roundw
      case rel => exact ⟨2, by omega, by go_num, HIS.out, HBS.out, HRS.out, t, HT.out, HNE.out, HPS.out⟩
      case measure => simp [intOf]
    · have HRQ : Hid (wr.heap[bx]? = some (.cells #[.int .i64 (vv 10 4), .int .u64 (vv 0 8), .int .i64 (vv 8 2), .int .i64 (vv 14 1), .int .i64 (wrap64 (vv 15 8)), .int .i64 (wrap64 (vv 23 8)), .int .i64 0, .int .i64 0, .int .i64 0, .int .i64 0] 49 (0, 0))) := Lib.hid HRJ.out
      have hnext : (15 + 8 * 2 : Nat) = 31 := rfl
      have HIQ : Hid (IsR wr W0.heap.size br (ST 31)) := Lib.hid HIJ.out
      clear HIJ HRJ
      go_wp2_with fail
      refine (HIN.out wr W0.heap.size br 31 HIQ.out).mono ?_
      rintro e y ⟨rfl, hr⟩
      have HIY : Hid (IsR y W0.heap.size br (ST 39)) := Lib.hid hr.1
      have HBY := Lib.hid (HBJ.out.trans hr.2.1)
      have HRY := Lib.hid (hr.2.2.block _ _ _ _ HRQ.out (by decide))
      have HPY := Lib.hid (hr.2.2.block _ _ _ _ HPT.out (by simp [RT]; exact HT.out))
      clear hr hcp
      have hc := fun j => cell_of_row y bx j _ _ _ HRY.out
      have hf := fun j => frozen_of_row y bx j _ _ HRY.out
      have hs := p_store HIY.out HRY.out hbx HBY.out 6 (.int .i64 (wrap64 (vv 31 8)))
      have HIS := Lib.hid hs.1
      have HBS := Lib.hid hs.2.2
      have HRS : Hid ((y.setCell ⟨bx, 6, none⟩ (.int .i64 (wrap64 (vv 31 8)))).heap[bx]? = some (.cells #[.int .i64 (vv 10 4), .int .u64 (vv 0 8), .int .i64 (vv 8 2), .int .i64 (vv 14 1), .int .i64 (wrap64 (vv 15 8)), .int .i64 (wrap64 (vv 23 8)), .int .i64 (wrap64 (vv 31 8)), .int .i64 0, .int .i64 0, .int .i64 0] 49 (0, 0))) := Lib.hid hs.2.1
      have HPS := Lib.hid ((heap_setCell_other y ⟨bx, 6, none⟩ x5.heap.size (.int .i64 (wrap64 (vv 31 8))) (by exact HNE.out)).trans HPY.out)
      clear hs
      go_wp2
      go_roundw
      case rel => exact ⟨3, by omega, by go_num, HIS.out, HBS.out, HRS.out, t, HT.out, HNE.out, HPS.out⟩
      case measure => simp [intOf]
    · have HRQ : Hid (wr.heap[bx]? = some (.cells #[.int .i64 (vv 10 4), .int .u64 (vv 0 8), .int .i64 (vv 8 2), .int .i64 (vv 14 1), .int .i64 (wrap64 (vv 15 8)), .int .i64 (wrap64 (vv 23 8)), .int .i64 (wrap64 (vv 31 8)), .int .i64 0, .int .i64 0, .int .i64 0] 49 (0, 0))) := Lib.hid HRJ.out
      have hnext : (15 + 8 * 3 : Nat) = 39 := rfl
      have HIQ : Hid (IsR wr W0.heap.size br (ST 39)) := Lib.hid HIJ.out
      clear HIJ HRJ
      go_wp2_with fail
      refine (HIN.out wr W0.heap.size br 39 HIQ.out).mono ?_
      rintro e y ⟨rfl, hr⟩
      have HIY : Hid (IsR y W0.heap.size br (ST 47)) := Lib.hid hr.1
      have HBY := Lib.hid (HBJ.out.trans hr.2.1)
      have HRY := Lib.hid (hr.2.2.block _ _ _ _ HRQ.out (by decide))
      have HPY := Lib.hid (hr.2.2.block _ _ _ _ HPT.out (by simp [RT]; exact HT.out))
      clear hr hcp
      have hc := fun j => cell_of_row y bx j _ _ _ HRY.out
      have hf := fun j => frozen_of_row y bx j _ _ HRY.out
      have hs := p_store HIY.out HRY.out hbx HBY.out 7 (.int .i64 (wrap64 (vv 39 8)))
      have HIS := Lib.hid hs.1
      have HBS := Lib.hid hs.2.2
      have HRS : Hid ((y.setCell ⟨bx, 7, none⟩ (.int .i64 (wrap64 (vv 39 8)))).heap[bx]? = some (.cells #[.int .i64 (vv 10 4), .int .u64 (vv 0 8), .int .i64 (vv 8 2), .int .i64 (vv 14 1), .int .i64 (wrap64 (vv 15 8)), .int .i64 (wrap64 (vv 23 8)), .int .i64 (wrap64 (vv 31 8)), .int .i64 (wrap64 (vv 39 8)), .int .i64 0, .int .i64 0] 49 (0, 0))) := Lib.hid hs.2.1
      have HPS := Lib.hid ((heap_setCell_other y ⟨bx, 7, none⟩ x5.heap.size (.int .i64 (wrap64 (vv 39 8))) (by exact HNE.out)).trans HPY.out)
      clear hs
      go_wp2
      go_roundw
      case rel => exact ⟨4, by omega, by go_num, HIS.out, HBS.out, HRS.out, t, HT.out, HNE.out, HPS.out⟩
      case measure => simp [intOf]
    · have HRQ : Hid (wr.heap[bx]? = some (.cells #[.int .i64 (vv 10 4), .int .u64 (vv 0 8), .int .i64 (vv 8 2), .int .i64 (vv 14 1), .int .i64 (wrap64 (vv 15 8)), .int .i64 (wrap64 (vv 23 8)), .int .i64 (wrap64 (vv 31 8)), .int .i64 (wrap64 (vv 39 8)), .int .i64 0, .int .i64 0] 49 (0, 0))) := Lib.hid HRJ.out
      have hnext : (15 + 8 * 4 : Nat) = 47 := rfl
      have HIQ : Hid (IsR wr W0.heap.size br (ST 47)) := Lib.hid HIJ.out
      clear HIJ HRJ
      go_wp2_with fail
      refine (HIN.out wr W0.heap.size br 47 HIQ.out).mono ?_
      rintro e y ⟨rfl, hr⟩
      have HIY : Hid (IsR y W0.heap.size br (ST 55)) := Lib.hid hr.1
      have HBY := Lib.hid (HBJ.out.trans hr.2.1)
      have HRY := Lib.hid (hr.2.2.block _ _ _ _ HRQ.out (by decide))
      have HPY := Lib.hid (hr.2.2.block _ _ _ _ HPT.out (by simp [RT]; exact HT.out))
      clear hr hcp
      have hc := fun j => cell_of_row y bx j _ _ _ HRY.out
      have hf := fun j => frozen_of_row y bx j _ _ HRY.out
      have hs := p_store HIY.out HRY.out hbx HBY.out 8 (.int .i64 (wrap64 (vv 47 8)))
      have HIS := Lib.hid hs.1
      have HBS := Lib.hid hs.2.2
      have HRS : Hid ((y.setCell ⟨bx, 8, none⟩ (.int .i64 (wrap64 (vv 47 8)))).heap[bx]? = some (.cells #[.int .i64 (vv 10 4), .int .u64 (vv 0 8), .int .i64 (vv 8 2), .int .i64 (vv 14 1), .int .i64 (wrap64 (vv 15 8)), .int .i64 (wrap64 (vv 23 8)), .int .i64 (wrap64 (vv 31 8)), .int .i64 (wrap64 (vv 39 8)), .int .i64 (wrap64 (vv 47 8)), .int .i64 0] 49 (0, 0))) := Lib.hid hs.2.1
      have HPS := Lib.hid ((heap_setCell_other y ⟨bx, 8, none⟩ x5.heap.size (.int .i64 (wrap64 (vv 47 8))) (by exact HNE.out)).trans HPY.out)
      clear hs
      go_wp2
      go_roundw
      case rel => exact ⟨5, by omega, by go_num, HIS.out, HBS.out, HRS.out, t, HT.out, HNE.out, HPS.out⟩
      case measure => simp [intOf]
    · have HRQ : Hid (wr.heap[bx]? = some (.cells #[.int .i64 (vv 10 4), .int .u64 (vv 0 8), .int .i64 (vv 8 2), .int .i64 (vv 14 1), .int .i64 (wrap64 (vv 15 8)), .int .i64 (wrap64 (vv 23 8)), .int .i64 (wrap64 (vv 31 8)), .int .i64 (wrap64 (vv 39 8)), .int .i64 (wrap64 (vv 47 8)), .int .i64 0] 49 (0, 0))) := Lib.hid HRJ.out
      have hnext : (15 + 8 * 5 : Nat) = 55 := rfl
      have HIQ : Hid (IsR wr W0.heap.size br (ST 55)) := Lib.hid HIJ.out
      clear HIJ HRJ
      go_wp2_with fail
      refine (HIN.out wr W0.heap.size br 55 HIQ.out).mono ?_
      rintro e y ⟨rfl, hr⟩
      have HIY : Hid (IsR y W0.heap.size br (ST 63)) := Lib.hid hr.1
      have HBY := Lib.hid (HBJ.out.trans hr.2.1)
      have HRY := Lib.hid (hr.2.2.block _ _ _ _ HRQ.out (by decide))
      have HPY := Lib.hid (hr.2.2.block _ _ _ _ HPT.out (by simp [RT]; exact HT.out))
      clear hr hcp
      have hc := fun j => cell_of_row y bx j _ _ _ HRY.out
      have hf := fun j => frozen_of_row y bx j _ _ HRY.out
      have hs := p_store HIY.out HRY.out hbx HBY.out 9 (.int .i64 (wrap64 (vv 55 8)))
      have HIS := Lib.hid hs.1
      have HBS := Lib.hid hs.2.2
      have HRS : Hid ((y.setCell ⟨bx, 9, none⟩ (.int .i64 (wrap64 (vv 55 8)))).heap[bx]? = some (.cells #[.int .i64 (vv 10 4), .int .u64 (vv 0 8), .int .i64 (vv 8 2), .int .i64 (vv 14 1), .int .i64 (wrap64 (vv 15 8)), .int .i64 (wrap64 (vv 23 8)), .int .i64 (wrap64 (vv 31 8)), .int .i64 (wrap64 (vv 39 8)), .int .i64 (wrap64 (vv 47 8)), .int .i64 (wrap64 (vv 55 8))] 49 (0, 0))) := Lib.hid hs.2.1
      have HPS := Lib.hid ((heap_setCell_other y ⟨bx, 9, none⟩ x5.heap.size (.int .i64 (wrap64 (vv 55 8))) (by exact HNE.out)).trans HPY.out)
      clear hs
      go_wp2
      go_roundw
      case rel => exact ⟨6, by omega, by go_num, HIS.out, HBS.out, HRS.out, t, HT.out, HNE.out, HPS.out⟩
      case measure => simp [intOf]
    · have HRQ : Hid (wr.heap[bx]? = some (.cells #[.int .i64 (vv 10 4), .int .u64 (vv 0 8), .int .i64 (vv 8 2), .int .i64 (vv 14 1), .int .i64 (wrap64 (vv 15 8)), .int .i64 (wrap64 (vv 23 8)), .int .i64 (wrap64 (vv 31 8)), .int .i64 (wrap64 (vv 39 8)), .int .i64 (wrap64 (vv 47 8)), .int .i64 (wrap64 (vv 55 8))] 49 (0, 0))) := Lib.hid HRJ.out
      have HIQ : Hid (IsR wr W0.heap.size br (ST 63)) := Lib.hid HIJ.out
      clear HIJ HRJ hcp
      go_wp2_with fail
      have hrz := (HBJ.out.block w.heap.size hlz).trans HRZ.out
      refine (rend_any _ br _ wr HIQ.out).mono ?_
      rintro e w6 ⟨rfl, nd, rfl⟩
      have hr6 : (wr.drewN nd).heap[bx]? = _ := HRQ.out
      have hz6 : (wr.drewN nd).heap[w.heap.size]? = _ := hrz
      have HB6 : Hid (Below w.heap.size w (wr.drewN nd)) := Lib.hid ((HBZ.out.trans (HBJ.out.mono (by omega))).trans ⟨rfl, rfl, rfl, Nat.le_refl _, fun _ _ => rfl⟩)
      generalize wr.drewN nd = w6 at *
      have HR6 := Lib.hid hr6
      have HZ6 := Lib.hid hz6
      by_cases h63 : m = 63
      · rw [if_pos (HEND.out.2 h63)]
        have hc6 := fun j => cell_of_row w6 bx j _ _ _ hr6
        have HMY := Lib.hid (fun W => may_any (vv 10 4) (vv 0 8) (vv 8 2) (vv 14 1) (wrap64 (vv 15 8)) (wrap64 (vv 23 8)) (wrap64 (vv 31 8)) (wrap64 (vv 39 8)) (wrap64 (vv 47 8)) (wrap64 (vv 55 8)) b1.1 (by omega) W)
        obtain ⟨mm, hmm⟩ : ∃ mm, Post.may (vv 10 4) (vv 0 8) (vv 8 2) (vv 14 1) [wrap64 (vv 15 8), wrap64 (vv 23 8), wrap64 (vv 31 8), wrap64 (vv 39 8), wrap64 (vv 47 8), wrap64 (vv 55 8)] = mm := ⟨_, rfl⟩
        rw [hmm] at HMY
        have HPM : Hid ((pOf b).may = mm) := Lib.hid (by rw [HP.out]; exact hmm)
        clear hmm hr6 hz6 hrz HPT HT HRQ
        go_wp2_with fail
        refine (HMY.out _).mono ?_
        rintro e wM ⟨rfl, hbM⟩
        have hrM : wM.heap[bx]? = _ := (hbM.block bx (block_lt HR6.out)).trans HR6.out
        have hzM := (hbM.block w.heap.size (block_lt HZ6.out)).trans HZ6.out
        have hcM := fun j => cell_of_row wM bx j _ _ _ hrM
        have hcz := fun j => cell_of_row wM w.heap.size j _ _ _ hzM
        have hfz := fun j => frozen_of_row wM w.heap.size j _ _ hzM
        have HZM := Lib.hid hzM
        have HBM := Lib.hid (HB6.out.trans (hbM.mono HB6.out.size))
        clear hrM hzM hbM hc6
        cases mm
        · go_wp2
          have hrowF := ten_row HZM.out (.int .i64 0) (.int .u64 0) (.int .i64 0) (.int .i64 0) (.int .i64 0) (.int .i64 0) (.int .i64 0) (.int .i64 0) (.int .i64 0) (.int .i64 0)
          refine bodyPost_ret (v := .tuple #[.agg #[.int .i64 0, .int .u64 0, .int .i64 0, .int .i64 0, .int .i64 0, .int .i64 0, .int .i64 0, .int .i64 0, .int .i64 0, .int .i64 0], .int .i64 4]) (by simp [results, Tryd.results30, go_sem, fun i => cell_of_row _ _ i _ _ _ hrowF]) rfl ⟨?_, ten_below HBM.out (by simp) _ _ _ _ _ _ _ _ _ _⟩
          have hno : ¬ (m = 63 ∧ (pOf b).may = true) := fun h => by have := HPM.out.symm.trans h.2; cases this
          rw [HRA'.out, HRC'.out, if_neg hno, if_neg hno]
          rfl
        · go_wp2
          have hrowF := ten_row HZM.out (.int .i64 (vv 10 4)) (.int .u64 (vv 0 8)) (.int .i64 (vv 8 2)) (.int .i64 (vv 14 1)) (.int .i64 (wrap64 (vv 15 8))) (.int .i64 (wrap64 (vv 23 8))) (.int .i64 (wrap64 (vv 31 8))) (.int .i64 (wrap64 (vv 39 8))) (.int .i64 (wrap64 (vv 47 8))) (.int .i64 (wrap64 (vv 55 8)))
          refine bodyPost_ret (v := .tuple #[.agg #[.int .i64 (vv 10 4), .int .u64 (vv 0 8), .int .i64 (vv 8 2), .int .i64 (vv 14 1), .int .i64 (wrap64 (vv 15 8)), .int .i64 (wrap64 (vv 23 8)), .int .i64 (wrap64 (vv 31 8)), .int .i64 (wrap64 (vv 39 8)), .int .i64 (wrap64 (vv 47 8)), .int .i64 (wrap64 (vv 55 8))], .int .i64 0]) (by simp [results, Tryd.results30, go_sem, fun i => cell_of_row _ _ i _ _ _ hrowF]) rfl ⟨?_, ten_below HBM.out (by simp) _ _ _ _ _ _ _ _ _ _⟩
          have hyes : m = 63 ∧ (pOf b).may = true := ⟨h63, HPM.out⟩
          rw [HRA'.out, HRC'.out, if_pos hyes, if_pos hyes, HP.out]
          rfl
      · rw [if_neg (fun h => h63 (HEND.out.1 h))]
        have hcz := fun j => cell_of_row w6 w.heap.size j _ _ _ hz6
        have hfz := fun j => frozen_of_row w6 w.heap.size j _ _ hz6
        clear hr6 hz6 hrz HPT HT HRQ
        go_wp2
        have hrowF := ten_row HZ6.out (.int .i64 0) (.int .u64 0) (.int .i64 0) (.int .i64 0) (.int .i64 0) (.int .i64 0) (.int .i64 0) (.int .i64 0) (.int .i64 0) (.int .i64 0)
        refine bodyPost_ret (v := .tuple #[.agg #[.int .i64 0, .int .u64 0, .int .i64 0, .int .i64 0, .int .i64 0, .int .i64 0, .int .i64 0, .int .i64 0, .int .i64 0, .int .i64 0], .int .i64 4]) (by simp [results, Tryd.results30, go_sem, fun i => cell_of_row _ _ i _ _ _ hrowF]) rfl ⟨?_, ten_below HB6.out (by simp) _ _ _ _ _ _ _ _ _ _⟩
        have hno : ¬ (m = 63 ∧ (pOf b).may = true) := fun h => h63 h.1
        rw [HRA'.out, HRC'.out, if_neg hno, if_neg hno]
        rfl
end Go.Proofs.YtellhmbebimenaaDoor
