/- Contract of posting.Of. Contract: report.Of. An argument that is a report, read as its days, rows and totals. Contract of the report chapter's rows (known). Contracts: slices.Equal of postings, report.Same. -/
import Derived.Test.YtolfekbhlfjniaaYROf
import Derived.Deep.RegionHeld3
import Derived.Test.YtolfekbhlfjniaaPostL
import Derived.Test.YtolfekbhlfjniaaYRep
import Derived.Test.YtolfekbhlfjniaaRepF
set_option linter.unusedVariables false
set_option linter.unusedSimpArgs false
namespace Go.Proofs.Ytolfekbhlfjniaa
open Go.RowKit

theorem IsR.keptU {T : List TypeId} (h1 : 107 ∉ T) (h2 : 5 ∉ T) {w w' : World} {base br : Nat} {st : Option (List UInt8)} (h : IsR w base br st) (hk : Kept T w w') : IsR w' base br st := by
  obtain ⟨hb, g, cap, a, bad, L, r1, r2, h3⟩ := h
  refine ⟨hb, g, cap, a, bad, L, hk.block _ _ _ _ r1 h1, ?_, h3⟩
  obtain ⟨hl, hor⟩ := r2
  refine ⟨hl, ?_⟩
  rcases hor with h | ⟨g', cap', cur, e, hg, hh, h4⟩
  · exact .inl h
  · exact .inr ⟨g', cap', cur, e, hg, hk.block _ _ _ _ hh h2, h4⟩
theorem p_store {wB W : World} {base bx br : Nat} {cs : Array Value} {st : Option (List UInt8)} (h : IsR W base br st) (hrow : W.heap[bx]? = some (.cells cs 38 (0, 0))) (hb : base ≤ bx) (hB : Below base wB W) (i : Nat) (v : Value) :
    IsR (W.setCell ⟨bx, i, none⟩ v) base br st ∧ (W.setCell ⟨bx, i, none⟩ v).heap[bx]? = some (.cells (cs.setIfInBounds i v) 38 (0, 0)) ∧ Below base wB (W.setCell ⟨bx, i, none⟩ v) :=
  ⟨h.keptU (T := [38]) (by decide) (by decide) ((Kept.refl _ _).setCell hrow (by simp) _), heap_setCell_same _ _ _ _ _ _ hrow, hB.setCell hb _⟩

def rowJ (vv : Nat → Int → Int) (j : Nat) : Array Value := #[.int .i64 (vv 10 4), .int .u64 (vv 0 8), .int .i64 (vv 8 2), .int .i64 (vv 14 1), .int .i64 (if 0 < j then wrap64 (vv 15 8) else 0), .int .i64 (if 1 < j then wrap64 (vv 23 8) else 0), .int .i64 (if 2 < j then wrap64 (vv 31 8) else 0), .int .i64 (if 3 < j then wrap64 (vv 39 8) else 0), .int .i64 (if 4 < j then wrap64 (vv 47 8) else 0), .int .i64 (if 5 < j then wrap64 (vv 55 8) else 0)]

set_option maxRecDepth 4000 in
set_option maxHeartbeats 4000000 in
theorem pOf_any (v : Value) (b : List UInt8) (hlen : b.length ≤ 1000) (w : World) (hv : BS w v b) :
    Calls Try.prog 39 #[v] w fun e w' => e = .returned (.tuple #[.agg (if b.length = 63 ∧ (pOf b).may = true then pOf b else zeroP).cells.toArray, .int .i64 (if b.length = 63 ∧ (pOf b).may = true then 0 else 4)]) ∧ Below w.heap.size w w' := by
  obtain ⟨vv, hvv⟩ : ∃ vv : Nat → Int → Int, vv = fun o k => ((vAt b o k.toNat : Nat) : Int) := ⟨_, rfl⟩
  obtain ⟨ST, hST⟩ : ∃ ST : Nat → Option (List UInt8), ST = stAt b := ⟨_, rfl⟩
  have HNU : Hid (∀ (W : World) (base br o : Nat) (k : Int), (k = 1 ∨ k = 2 ∨ k = 4 ∨ k = 8) → IsR W base br (ST o) → Calls Try.prog 37 #[.pointer (some ⟨br, 0, none⟩), .int .i64 k] W fun e w' => e = .returned (.int .u64 (vv o k)) ∧ RStep W w' base br (ST (o + k.toNat))) := Lib.hid (fun W base br o k hk h => by
    obtain ⟨z, rfl⟩ := Int.eq_ofNat_of_zero_le (show 0 ≤ k by omega)
    rw [hST] at h ⊢
    have := rnumber_any base br _ (z : Int) W h
    rw [stAt_num b o z (by omega)] at this
    rw [hvv]
    exact this)
  have HIN : Hid (∀ (W : World) (base br o : Nat), IsR W base br (ST o) → Calls Try.prog 71 #[.pointer (some ⟨br, 0, none⟩)] W fun e w' => e = .returned (.int .i64 (wrap64 (vv o 8))) ∧ RStep W w' base br (ST (o + 8))) := Lib.hid (fun W base br o h => by
    rw [hST] at h ⊢
    have := rint_any base br _ W h
    rw [show (8 : Int) = ((8 : Nat) : Int) from rfl, stAt_num b o 8 (by omega)] at this
    rw [hvv]
    exact this)
  have hb0 : ∀ (o k : Nat), 0 ≤ vv o (k : Int) ∧ vv o (k : Int) < (256 ^ k : Nat) := fun o k => by
    rw [hvv]
    have := vAt_lt b o k
    exact ⟨by show (0 : Int) ≤ ((vAt b o k : Nat) : Int); omega, by show ((vAt b o k : Nat) : Int) < _; exact Int.ofNat_lt.2 this⟩
  have b1 : 0 ≤ vv 0 8 ∧ vv 0 8 < 18446744073709551616 := hb0 0 8
  have b2 : 0 ≤ vv 8 2 ∧ vv 8 2 < 65536 := hb0 8 2
  have b3 : 0 ≤ vv 10 4 ∧ vv 10 4 < 4294967296 := hb0 10 4
  have b4 : 0 ≤ vv 14 1 ∧ vv 14 1 < 256 := hb0 14 1
  have z2 : IntKind.i64.wrap (vv 8 2) = vv 8 2 := by rw [IntKind.wrap_i64]; omega
  have z3 : IntKind.i64.wrap (vv 10 4) = vv 10 4 := by rw [IntKind.wrap_i64]; omega
  have z4 : IntKind.i64.wrap (vv 14 1) = vv 14 1 := by rw [IntKind.wrap_i64]; omega
  have HP : Hid (pOf b = ⟨vv 10 4, vv 0 8, vv 8 2, vv 14 1, wrap64 (vv 15 8), wrap64 (vv 23 8), wrap64 (vv 31 8), wrap64 (vv 39 8), wrap64 (vv 47 8), wrap64 (vv 55 8)⟩) := Lib.hid (by rw [hvv]; rfl)
  have HEND : Hid (ST 63 = some [] ↔ b.length = 63) := Lib.hid (by rw [hST]; exact stAt_end b)
  have HS0 : Hid (some b = ST 0) := Lib.hid (by rw [hST, stAt_zero])
  have HRD := Lib.hid (fun W h => read_any v b (by omega) W h)
  rw [HS0.out] at HRD
  have HV := Lib.hid hv
  clear hb0 hvv hST
  obtain ⟨p, cap, rfl, g1, g2, -⟩ := hv
  generalize b.length = m at *
  obtain ⟨RA, hRA⟩ : ∃ RA, RA = (if m = 63 ∧ (pOf b).may = true then pOf b else zeroP).cells.toArray := ⟨_, rfl⟩
  obtain ⟨RC, hRC⟩ : ∃ RC : Int, RC = if m = 63 ∧ (pOf b).may = true then 0 else 4 := ⟨_, rfl⟩
  rw [← hRA, ← hRC]
  have HRA' := Lib.hid hRA
  have HRC' := Lib.hid hRC
  clear hRA hRC
  go_enter Try.func39, Try.ntmps39
  go_wp2_with fail
  have hrz0 : (w.alloc (.cells #[.int .i64 0, .int .u64 0, .int .i64 0, .int .i64 0, .int .i64 0, .int .i64 0, .int .i64 0, .int .i64 0, .int .i64 0, .int .i64 0] 38)).heap[w.heap.size]? = some (.cells #[.int .i64 0, .int .u64 0, .int .i64 0, .int .i64 0, .int .i64 0, .int .i64 0, .int .i64 0, .int .i64 0, .int .i64 0, .int .i64 0] 38 (0, 0)) := new_rowW _ _ _ rfl
  have HBZ := Lib.hid ((Below.refl w.heap.size w).alloc (Nat.le_refl _) (.cells #[.int .i64 0, .int .u64 0, .int .i64 0, .int .i64 0, .int .i64 0, .int .i64 0, .int .i64 0, .int .i64 0, .int .i64 0, .int .i64 0] 38))
  have HVZ := Lib.hid (HV.out.alloc (.cells #[.int .i64 0, .int .u64 0, .int .i64 0, .int .i64 0, .int .i64 0, .int .i64 0, .int .i64 0, .int .i64 0, .int .i64 0, .int .i64 0] 38))
  generalize w.alloc (.cells #[.int .i64 0, .int .u64 0, .int .i64 0, .int .i64 0, .int .i64 0, .int .i64 0, .int .i64 0, .int .i64 0, .int .i64 0, .int .i64 0] 38) = W0 at *
  have hlz : w.heap.size < W0.heap.size := block_lt hrz0
  refine (HRD.out _ HVZ.out).mono ?_
  rintro e w1 ⟨br, rfl, hr, hb1⟩
  have HI1 := Lib.hid hr
  have HB1 := Lib.hid hb1
  have HRZ := Lib.hid hrz0
  clear hr hb1 hrz0
  go_wp2_with fail
  have hbx := HB1.out.size
  have HIA := Lib.hid (HI1.out.below ((Below.refl w1.heap.size w1).alloc (Nat.le_refl _) (.cells #[.int .i64 0, .int .u64 0, .int .i64 0, .int .i64 0, .int .i64 0, .int .i64 0, .int .i64 0, .int .i64 0, .int .i64 0, .int .i64 0] 38)))
  have HBA := Lib.hid (HB1.out.alloc hbx (.cells #[.int .i64 0, .int .u64 0, .int .i64 0, .int .i64 0, .int .i64 0, .int .i64 0, .int .i64 0, .int .i64 0, .int .i64 0, .int .i64 0] 38))
  have HRA : Hid ((w1.alloc (.cells #[.int .i64 0, .int .u64 0, .int .i64 0, .int .i64 0, .int .i64 0, .int .i64 0, .int .i64 0, .int .i64 0, .int .i64 0, .int .i64 0] 38)).heap[w1.heap.size]? = some (.cells #[.int .i64 0, .int .u64 0, .int .i64 0, .int .i64 0, .int .i64 0, .int .i64 0, .int .i64 0, .int .i64 0, .int .i64 0, .int .i64 0] 38 (0, 0))) := Lib.hid (new_rowW _ _ _ rfl)
  generalize w1.alloc (.cells #[.int .i64 0, .int .u64 0, .int .i64 0, .int .i64 0, .int .i64 0, .int .i64 0, .int .i64 0, .int .i64 0, .int .i64 0, .int .i64 0] 38) = A at *
  generalize w1.heap.size = bx at *
  refine (HNU.out A W0.heap.size br 0 8 (by decide) HIA.out).mono ?_
  rintro e x2 ⟨rfl, hr⟩
  have HI2 : Hid (IsR x2 W0.heap.size br (ST 8)) := Lib.hid hr.1
  have HB2 := Lib.hid (HBA.out.trans hr.2.1)
  have HR2 := Lib.hid (hr.2.2.block _ _ _ _ HRA.out (by decide))
  clear hr
  go_wp2_with fail
  refine (HNU.out x2 W0.heap.size br 8 2 (by decide) HI2.out).mono ?_
  rintro e x3 ⟨rfl, hr⟩
  have HI3 : Hid (IsR x3 W0.heap.size br (ST 10)) := Lib.hid hr.1
  have HB3 := Lib.hid (HB2.out.trans hr.2.1)
  have HR3 := Lib.hid (hr.2.2.block _ _ _ _ HR2.out (by decide))
  clear hr
  have hc3 := fun j => cell_of_row x3 bx j _ _ _ HR3.out
  have hf3 := fun j => frozen_of_row x3 bx j _ _ HR3.out
  have hs0 := p_store HI3.out HR3.out hbx HB3.out 1 (.int .u64 (vv 0 8))
  have hs1 := p_store hs0.1 hs0.2.1 hbx hs0.2.2 2 (.int .i64 (vv 8 2))
  have HIC := Lib.hid hs1.1
  have HBC := Lib.hid hs1.2.2
  have HRC : Hid (((x3.setCell ⟨bx, 1, none⟩ (.int .u64 (vv 0 8))).setCell ⟨bx, 2, none⟩ (.int .i64 (vv 8 2))).heap[bx]? = some (.cells #[.int .i64 (0), .int .u64 (vv 0 8), .int .i64 (vv 8 2), .int .i64 (0), .int .i64 0, .int .i64 0, .int .i64 0, .int .i64 0, .int .i64 0, .int .i64 0] 38 (0, 0))) := Lib.hid hs1.2.1
  clear hs0 hs1
  go_wp2_with fail
  clear hc3 hf3
  generalize ((x3.setCell ⟨bx, 1, none⟩ (.int .u64 (vv 0 8))).setCell ⟨bx, 2, none⟩ (.int .i64 (vv 8 2))) = C at *
  refine (HNU.out C W0.heap.size br 10 4 (by decide) HIC.out).mono ?_
  rintro e x4 ⟨rfl, hr⟩
  have HI4 : Hid (IsR x4 W0.heap.size br (ST 14)) := Lib.hid hr.1
  have HB4 := Lib.hid (HBC.out.trans hr.2.1)
  have HR4 := Lib.hid (hr.2.2.block _ _ _ _ HRC.out (by decide))
  clear hr
  go_wp2_with fail
  refine (HNU.out x4 W0.heap.size br 14 1 (by decide) HI4.out).mono ?_
  rintro e x5 ⟨rfl, hr⟩
  have HI5 : Hid (IsR x5 W0.heap.size br (ST 15)) := Lib.hid hr.1
  have HB5 := Lib.hid (HB4.out.trans hr.2.1)
  have HR5 := Lib.hid (hr.2.2.block _ _ _ _ HR4.out (by decide))
  clear hr
  have hc5 := fun j => cell_of_row x5 bx j _ _ _ HR5.out
  have hf5 := fun j => frozen_of_row x5 bx j _ _ HR5.out
  have hs0 := p_store HI5.out HR5.out hbx HB5.out 0 (.int .i64 (vv 10 4))
  have hs1 := p_store hs0.1 hs0.2.1 hbx hs0.2.2 3 (.int .i64 (vv 14 1))
  have HID := Lib.hid hs1.1
  have HBD := Lib.hid hs1.2.2
  have HRD : Hid (((x5.setCell ⟨bx, 0, none⟩ (.int .i64 (vv 10 4))).setCell ⟨bx, 3, none⟩ (.int .i64 (vv 14 1))).heap[bx]? = some (.cells #[.int .i64 (vv 10 4), .int .u64 (vv 0 8), .int .i64 (vv 8 2), .int .i64 (vv 14 1), .int .i64 0, .int .i64 0, .int .i64 0, .int .i64 0, .int .i64 0, .int .i64 0] 38 (0, 0))) := Lib.hid hs1.2.1
  clear hs0 hs1
  go_wp2_with fail
  clear hc5 hf5
  have hDs : ((x5.setCell ⟨bx, 0, none⟩ (.int .i64 (vv 10 4))).setCell ⟨bx, 3, none⟩ (.int .i64 (vv 14 1))).heap.size = x5.heap.size := by simp
  generalize ((x5.setCell ⟨bx, 0, none⟩ (.int .i64 (vv 10 4))).setCell ⟨bx, 3, none⟩ (.int .i64 (vv 14 1))) = D at *
  go_loopw [33] (fun i wr => ∃ j : Nat, j ≤ 6 ∧ i = .int .i64 j ∧ IsR wr W0.heap.size br (ST (15 + 8 * j)) ∧ Below W0.heap.size W0 wr ∧ wr.heap[bx]? = some (.cells (rowJ vv j) 38 (0, 0)) ∧ ∃ t, t ≠ 107 ∧ x5.heap.size ≠ bx ∧ wr.heap[x5.heap.size]? = some (.cells #[.pointer (some ⟨bx, 4, none⟩), .pointer (some ⟨bx, 5, none⟩), .pointer (some ⟨bx, 6, none⟩), .pointer (some ⟨bx, 7, none⟩), .pointer (some ⟨bx, 8, none⟩), .pointer (some ⟨bx, 9, none⟩)] t (0, 0))) (fun i _ => 6 - (intOf i).toNat)
  case atStart => exact ⟨0, by omega, rfl, HID.out.below ((Below.refl D.heap.size D).alloc (Nat.le_refl _) _), HBD.out.alloc (by have := HBD.out.size; omega) _, row_allocW HRD.out _, _, by decide, by have := block_lt HRD.out; omega, new_rowW _ _ _ hDs.symm⟩
  case round =>
    obtain ⟨j, hj, rfl, hisr, hbw, hrow, t, ht, hne, hptr⟩ := hrel
    have HIJ := Lib.hid hisr
    have HBJ := Lib.hid hbw
    have HRJ := Lib.hid hrow
    have HPT := Lib.hid hptr
    have HT := Lib.hid ht
    have HNE := Lib.hid hne
    have hcp := fun i => cell_of_row wr x5.heap.size i _ _ _ hptr
    clear hisr hbw hrow hptr ht hne
    rcases (by omega : j = 0 ∨ j = 1 ∨ j = 2 ∨ j = 3 ∨ j = 4 ∨ j = 5 ∨ j = 6) with rfl | rfl | rfl | rfl | rfl | rfl | rfl
    · have HRQ : Hid (wr.heap[bx]? = some (.cells #[.int .i64 (vv 10 4), .int .u64 (vv 0 8), .int .i64 (vv 8 2), .int .i64 (vv 14 1), .int .i64 0, .int .i64 0, .int .i64 0, .int .i64 0, .int .i64 0, .int .i64 0] 38 (0, 0))) := Lib.hid HRJ.out
      have hnext : (15 + 8 * 0 : Nat) = 15 := rfl
      have HIQ : Hid (IsR wr W0.heap.size br (ST 15)) := Lib.hid HIJ.out
      clear HIJ HRJ
      go_wp2_with fail
      refine (HIN.out wr W0.heap.size br 15 HIQ.out).mono ?_
      rintro e y ⟨rfl, hr⟩
      have HIY : Hid (IsR y W0.heap.size br (ST 23)) := Lib.hid hr.1
      have HBY := Lib.hid (HBJ.out.trans hr.2.1)
      have HRY := Lib.hid (hr.2.2.block _ _ _ _ HRQ.out (by decide))
      have HPY := Lib.hid (hr.2.2.block _ _ _ _ HPT.out (by simp [RT]; exact HT.out))
      clear hr hcp
      have hc := fun j => cell_of_row y bx j _ _ _ HRY.out
      have hf := fun j => frozen_of_row y bx j _ _ HRY.out
      have hs := p_store HIY.out HRY.out hbx HBY.out 4 (.int .i64 (wrap64 (vv 15 8)))
      have HIS := Lib.hid hs.1
      have HBS := Lib.hid hs.2.2
      have HRS : Hid ((y.setCell ⟨bx, 4, none⟩ (.int .i64 (wrap64 (vv 15 8)))).heap[bx]? = some (.cells #[.int .i64 (vv 10 4), .int .u64 (vv 0 8), .int .i64 (vv 8 2), .int .i64 (vv 14 1), .int .i64 (wrap64 (vv 15 8)), .int .i64 0, .int .i64 0, .int .i64 0, .int .i64 0, .int .i64 0] 38 (0, 0))) := Lib.hid hs.2.1
      have HPS := Lib.hid ((heap_setCell_other y ⟨bx, 4, none⟩ x5.heap.size (.int .i64 (wrap64 (vv 15 8))) (by exact HNE.out)).trans HPY.out)
      clear hs
      go_wp2
      go_roundw
      case rel => exact ⟨1, by omega, by go_num, HIS.out, HBS.out, HRS.out, t, HT.out, HNE.out, HPS.out⟩
      case measure => simp [intOf]
    · have HRQ : Hid (wr.heap[bx]? = some (.cells #[.int .i64 (vv 10 4), .int .u64 (vv 0 8), .int .i64 (vv 8 2), .int .i64 (vv 14 1), .int .i64 (wrap64 (vv 15 8)), .int .i64 0, .int .i64 0, .int .i64 0, .int .i64 0, .int .i64 0] 38 (0, 0))) := Lib.hid HRJ.out
      have hnext : (15 + 8 * 1 : Nat) = 23 := rfl
      have HIQ : Hid (IsR wr W0.heap.size br (ST 23)) := Lib.hid HIJ.out
      clear HIJ HRJ
      go_wp2_with fail
      refine (HIN.out wr W0.heap.size br 23 HIQ.out).mono ?_
      rintro e y ⟨rfl, hr⟩
      have HIY : Hid (IsR y W0.heap.size br (ST 31)) := Lib.hid hr.1
      have HBY := Lib.hid (HBJ.out.trans hr.2.1)
      have HRY := Lib.hid (hr.2.2.block _ _ _ _ HRQ.out (by decide))
      have HPY := Lib.hid (hr.2.2.block _ _ _ _ HPT.out (by simp [RT]; exact HT.out))
      clear hr hcp
      have hc := fun j => cell_of_row y bx j _ _ _ HRY.out
      have hf := fun j => frozen_of_row y bx j _ _ HRY.out
      have hs := p_store HIY.out HRY.out hbx HBY.out 5 (.int .i64 (wrap64 (vv 23 8)))
      have HIS := Lib.hid hs.1
      have HBS := Lib.hid hs.2.2
      have HRS : Hid ((y.setCell ⟨bx, 5, none⟩ (.int .i64 (wrap64 (vv 23 8)))).heap[bx]? = some (.cells #[.int .i64 (vv 10 4), .int .u64 (vv 0 8), .int .i64 (vv 8 2), .int .i64 (vv 14 1), .int .i64 (wrap64 (vv 15 8)), .int .i64 (wrap64 (vv 23 8)), .int .i64 0, .int .i64 0, .int .i64 0, .int .i64 0] 38 (0, 0))) := Lib.hid hs.2.1
      have HPS := Lib.hid ((heap_setCell_other y ⟨bx, 5, none⟩ x5.heap.size (.int .i64 (wrap64 (vv 23 8))) (by exact HNE.out)).trans HPY.out)
      clear hs
      go_wp2
      go_roundw
      case rel => exact ⟨2, by omega, by go_num, HIS.out, HBS.out, HRS.out, t, HT.out, HNE.out, HPS.out⟩
      case measure => simp [intOf]
    · have HRQ : Hid (wr.heap[bx]? = some (.cells #[.int .i64 (vv 10 4), .int .u64 (vv 0 8), .int .i64 (vv 8 2), .int .i64 (vv 14 1), .int .i64 (wrap64 (vv 15 8)), .int .i64 (wrap64 (vv 23 8)), .int .i64 0, .int .i64 0, .int .i64 0, .int .i64 0] 38 (0, 0))) := Lib.hid HRJ.out
      have hnext : (15 + 8 * 2 : Nat) = 31 := rfl
      have HIQ : Hid (IsR wr W0.heap.size br (ST 31)) := Lib.hid HIJ.out
      clear HIJ HRJ
      go_wp2_with fail
      refine (HIN.out wr W0.heap.size br 31 HIQ.out).mono ?_
      rintro e y ⟨rfl, hr⟩
      have HIY : Hid (IsR y W0.heap.size br (ST 39)) := Lib.hid hr.1
      have HBY := Lib.hid (HBJ.out.trans hr.2.1)
      have HRY := Lib.hid (hr.2.2.block _ _ _ _ HRQ.out (by decide))
      have HPY := Lib.hid (hr.2.2.block _ _ _ _ HPT.out (by simp [RT]; exact HT.out))
      clear hr hcp
      have hc := fun j => cell_of_row y bx j _ _ _ HRY.out
      have hf := fun j => frozen_of_row y bx j _ _ HRY.out
      have hs := p_store HIY.out HRY.out hbx HBY.out 6 (.int .i64 (wrap64 (vv 31 8)))
      have HIS := Lib.hid hs.1
      have HBS := Lib.hid hs.2.2
      have HRS : Hid ((y.setCell ⟨bx, 6, none⟩ (.int .i64 (wrap64 (vv 31 8)))).heap[bx]? = some (.cells #[.int .i64 (vv 10 4), .int .u64 (vv 0 8), .int .i64 (vv 8 2), .int .i64 (vv 14 1), .int .i64 (wrap64 (vv 15 8)), .int .i64 (wrap64 (vv 23 8)), .int .i64 (wrap64 (vv 31 8)), .int .i64 0, .int .i64 0, .int .i64 0] 38 (0, 0))) := Lib.hid hs.2.1
      have HPS := Lib.hid ((heap_setCell_other y ⟨bx, 6, none⟩ x5.heap.size (.int .i64 (wrap64 (vv 31 8))) (by exact HNE.out)).trans HPY.out)
      clear hs
      go_wp2
      go_roundw
      case rel => exact ⟨3, by omega, by go_num, HIS.out, HBS.out, HRS.out, t, HT.out, HNE.out, HPS.out⟩
      case measure => simp [intOf]
    · have HRQ : Hid (wr.heap[bx]? = some (.cells #[.int .i64 (vv 10 4), .int .u64 (vv 0 8), .int .i64 (vv 8 2), .int .i64 (vv 14 1), .int .i64 (wrap64 (vv 15 8)), .int .i64 (wrap64 (vv 23 8)), .int .i64 (wrap64 (vv 31 8)), .int .i64 0, .int .i64 0, .int .i64 0] 38 (0, 0))) := Lib.hid HRJ.out
      have hnext : (15 + 8 * 3 : Nat) = 39 := rfl
      have HIQ : Hid (IsR wr W0.heap.size br (ST 39)) := Lib.hid HIJ.out
      clear HIJ HRJ
      go_wp2_with fail
      refine (HIN.out wr W0.heap.size br 39 HIQ.out).mono ?_
      rintro e y ⟨rfl, hr⟩
      have HIY : Hid (IsR y W0.heap.size br (ST 47)) := Lib.hid hr.1
      have HBY := Lib.hid (HBJ.out.trans hr.2.1)
      have HRY := Lib.hid (hr.2.2.block _ _ _ _ HRQ.out (by decide))
      have HPY := Lib.hid (hr.2.2.block _ _ _ _ HPT.out (by simp [RT]; exact HT.out))
      clear hr hcp
      have hc := fun j => cell_of_row y bx j _ _ _ HRY.out
      have hf := fun j => frozen_of_row y bx j _ _ HRY.out
      have hs := p_store HIY.out HRY.out hbx HBY.out 7 (.int .i64 (wrap64 (vv 39 8)))
      have HIS := Lib.hid hs.1
      have HBS := Lib.hid hs.2.2
      have HRS : Hid ((y.setCell ⟨bx, 7, none⟩ (.int .i64 (wrap64 (vv 39 8)))).heap[bx]? = some (.cells #[.int .i64 (vv 10 4), .int .u64 (vv 0 8), .int .i64 (vv 8 2), .int .i64 (vv 14 1), .int .i64 (wrap64 (vv 15 8)), .int .i64 (wrap64 (vv 23 8)), .int .i64 (wrap64 (vv 31 8)), .int .i64 (wrap64 (vv 39 8)), .int .i64 0, .int .i64 0] 38 (0, 0))) := Lib.hid hs.2.1
      have HPS := Lib.hid ((heap_setCell_other y ⟨bx, 7, none⟩ x5.heap.size (.int .i64 (wrap64 (vv 39 8))) (by exact HNE.out)).trans HPY.out)
      clear hs
      go_wp2
      go_roundw
      case rel => exact ⟨4, by omega, by go_num, HIS.out, HBS.out, HRS.out, t, HT.out, HNE.out, HPS.out⟩
      case measure => simp [intOf]
    · have HRQ : Hid (wr.heap[bx]? = some (.cells #[.int .i64 (vv 10 4), .int .u64 (vv 0 8), .int .i64 (vv 8 2), .int .i64 (vv 14 1), .int .i64 (wrap64 (vv 15 8)), .int .i64 (wrap64 (vv 23 8)), .int .i64 (wrap64 (vv 31 8)), .int .i64 (wrap64 (vv 39 8)), .int .i64 0, .int .i64 0] 38 (0, 0))) := Lib.hid HRJ.out
      have hnext : (15 + 8 * 4 : Nat) = 47 := rfl
      have HIQ : Hid (IsR wr W0.heap.size br (ST 47)) := Lib.hid HIJ.out
      clear HIJ HRJ
      go_wp2_with fail
      refine (HIN.out wr W0.heap.size br 47 HIQ.out).mono ?_
      rintro e y ⟨rfl, hr⟩
      have HIY : Hid (IsR y W0.heap.size br (ST 55)) := Lib.hid hr.1
      have HBY := Lib.hid (HBJ.out.trans hr.2.1)
      have HRY := Lib.hid (hr.2.2.block _ _ _ _ HRQ.out (by decide))
      have HPY := Lib.hid (hr.2.2.block _ _ _ _ HPT.out (by simp [RT]; exact HT.out))
      clear hr hcp
      have hc := fun j => cell_of_row y bx j _ _ _ HRY.out
      have hf := fun j => frozen_of_row y bx j _ _ HRY.out
      have hs := p_store HIY.out HRY.out hbx HBY.out 8 (.int .i64 (wrap64 (vv 47 8)))
      have HIS := Lib.hid hs.1
      have HBS := Lib.hid hs.2.2
      have HRS : Hid ((y.setCell ⟨bx, 8, none⟩ (.int .i64 (wrap64 (vv 47 8)))).heap[bx]? = some (.cells #[.int .i64 (vv 10 4), .int .u64 (vv 0 8), .int .i64 (vv 8 2), .int .i64 (vv 14 1), .int .i64 (wrap64 (vv 15 8)), .int .i64 (wrap64 (vv 23 8)), .int .i64 (wrap64 (vv 31 8)), .int .i64 (wrap64 (vv 39 8)), .int .i64 (wrap64 (vv 47 8)), .int .i64 0] 38 (0, 0))) := Lib.hid hs.2.1
      have HPS := Lib.hid ((heap_setCell_other y ⟨bx, 8, none⟩ x5.heap.size (.int .i64 (wrap64 (vv 47 8))) (by exact HNE.out)).trans HPY.out)
      clear hs
      go_wp2
      go_roundw
      case rel => exact ⟨5, by omega, by go_num, HIS.out, HBS.out, HRS.out, t, HT.out, HNE.out, HPS.out⟩
      case measure => simp [intOf]
    · have HRQ : Hid (wr.heap[bx]? = some (.cells #[.int .i64 (vv 10 4), .int .u64 (vv 0 8), .int .i64 (vv 8 2), .int .i64 (vv 14 1), .int .i64 (wrap64 (vv 15 8)), .int .i64 (wrap64 (vv 23 8)), .int .i64 (wrap64 (vv 31 8)), .int .i64 (wrap64 (vv 39 8)), .int .i64 (wrap64 (vv 47 8)), .int .i64 0] 38 (0, 0))) := Lib.hid HRJ.out
      have hnext : (15 + 8 * 5 : Nat) = 55 := rfl
      have HIQ : Hid (IsR wr W0.heap.size br (ST 55)) := Lib.hid HIJ.out
      clear HIJ HRJ
      go_wp2_with fail
      refine (HIN.out wr W0.heap.size br 55 HIQ.out).mono ?_
      rintro e y ⟨rfl, hr⟩
      have HIY : Hid (IsR y W0.heap.size br (ST 63)) := Lib.hid hr.1
      have HBY := Lib.hid (HBJ.out.trans hr.2.1)
      have HRY := Lib.hid (hr.2.2.block _ _ _ _ HRQ.out (by decide))
      have HPY := Lib.hid (hr.2.2.block _ _ _ _ HPT.out (by simp [RT]; exact HT.out))
      clear hr hcp
      have hc := fun j => cell_of_row y bx j _ _ _ HRY.out
      have hf := fun j => frozen_of_row y bx j _ _ HRY.out
      have hs := p_store HIY.out HRY.out hbx HBY.out 9 (.int .i64 (wrap64 (vv 55 8)))
      have HIS := Lib.hid hs.1
      have HBS := Lib.hid hs.2.2
      have HRS : Hid ((y.setCell ⟨bx, 9, none⟩ (.int .i64 (wrap64 (vv 55 8)))).heap[bx]? = some (.cells #[.int .i64 (vv 10 4), .int .u64 (vv 0 8), .int .i64 (vv 8 2), .int .i64 (vv 14 1), .int .i64 (wrap64 (vv 15 8)), .int .i64 (wrap64 (vv 23 8)), .int .i64 (wrap64 (vv 31 8)), .int .i64 (wrap64 (vv 39 8)), .int .i64 (wrap64 (vv 47 8)), .int .i64 (wrap64 (vv 55 8))] 38 (0, 0))) := Lib.hid hs.2.1
      have HPS := Lib.hid ((heap_setCell_other y ⟨bx, 9, none⟩ x5.heap.size (.int .i64 (wrap64 (vv 55 8))) (by exact HNE.out)).trans HPY.out)
      clear hs
      go_wp2
      go_roundw
      case rel => exact ⟨6, by omega, by go_num, HIS.out, HBS.out, HRS.out, t, HT.out, HNE.out, HPS.out⟩
      case measure => simp [intOf]
    · have HRQ : Hid (wr.heap[bx]? = some (.cells #[.int .i64 (vv 10 4), .int .u64 (vv 0 8), .int .i64 (vv 8 2), .int .i64 (vv 14 1), .int .i64 (wrap64 (vv 15 8)), .int .i64 (wrap64 (vv 23 8)), .int .i64 (wrap64 (vv 31 8)), .int .i64 (wrap64 (vv 39 8)), .int .i64 (wrap64 (vv 47 8)), .int .i64 (wrap64 (vv 55 8))] 38 (0, 0))) := Lib.hid HRJ.out
      have HIQ : Hid (IsR wr W0.heap.size br (ST 63)) := Lib.hid HIJ.out
      clear HIJ HRJ hcp
      go_wp2_with fail
      have hrz := (HBJ.out.block w.heap.size hlz).trans HRZ.out
      refine (rend_any _ br _ wr HIQ.out).mono ?_
      rintro e w6 ⟨rfl, nd, rfl⟩
      have hr6 : (wr.drewN nd).heap[bx]? = _ := HRQ.out
      have hz6 : (wr.drewN nd).heap[w.heap.size]? = _ := hrz
      have HB6 : Hid (Below w.heap.size w (wr.drewN nd)) := Lib.hid ((HBZ.out.trans (HBJ.out.mono (by omega))).trans ⟨rfl, rfl, rfl, Nat.le_refl _, fun _ _ => rfl⟩)
      generalize wr.drewN nd = w6 at *
      have HR6 := Lib.hid hr6
      have HZ6 := Lib.hid hz6
      by_cases h63 : m = 63
      · rw [if_pos (HEND.out.2 h63)]
        have hc6 := fun j => cell_of_row w6 bx j _ _ _ hr6
        have HMY := Lib.hid (fun W => may_any (vv 10 4) (vv 0 8) (vv 8 2) (vv 14 1) (wrap64 (vv 15 8)) (wrap64 (vv 23 8)) (wrap64 (vv 31 8)) (wrap64 (vv 39 8)) (wrap64 (vv 47 8)) (wrap64 (vv 55 8)) b1.1 (by omega) W)
        obtain ⟨mm, hmm⟩ : ∃ mm, Post.may (vv 10 4) (vv 0 8) (vv 8 2) (vv 14 1) [wrap64 (vv 15 8), wrap64 (vv 23 8), wrap64 (vv 31 8), wrap64 (vv 39 8), wrap64 (vv 47 8), wrap64 (vv 55 8)] = mm := ⟨_, rfl⟩
        rw [hmm] at HMY
        have HPM : Hid ((pOf b).may = mm) := Lib.hid (by rw [HP.out]; exact hmm)
        clear hmm hr6 hz6 hrz HPT HT HRQ
        go_wp2_with fail
        refine (HMY.out _).mono ?_
        rintro e wM ⟨rfl, hbM⟩
        have hrM : wM.heap[bx]? = _ := (hbM.block bx (block_lt HR6.out)).trans HR6.out
        have hzM := (hbM.block w.heap.size (block_lt HZ6.out)).trans HZ6.out
        have hcM := fun j => cell_of_row wM bx j _ _ _ hrM
        have hcz := fun j => cell_of_row wM w.heap.size j _ _ _ hzM
        have hfz := fun j => frozen_of_row wM w.heap.size j _ _ hzM
        have HZM := Lib.hid hzM
        have HBM := Lib.hid (HB6.out.trans (hbM.mono HB6.out.size))
        clear hrM hzM hbM hc6
        cases mm
        · go_wp2
          have hrowF := ten_row HZM.out (.int .i64 0) (.int .u64 0) (.int .i64 0) (.int .i64 0) (.int .i64 0) (.int .i64 0) (.int .i64 0) (.int .i64 0) (.int .i64 0) (.int .i64 0)
          refine bodyPost_ret (v := .tuple #[.agg #[.int .i64 0, .int .u64 0, .int .i64 0, .int .i64 0, .int .i64 0, .int .i64 0, .int .i64 0, .int .i64 0, .int .i64 0, .int .i64 0], .int .i64 4]) (by simp [results, Try.results39, go_sem, fun i => cell_of_row _ _ i _ _ _ hrowF]) rfl ⟨?_, ten_below HBM.out (by simp) _ _ _ _ _ _ _ _ _ _⟩
          have hno : ¬ (m = 63 ∧ (pOf b).may = true) := fun h => by have := HPM.out.symm.trans h.2; cases this
          rw [HRA'.out, HRC'.out, if_neg hno, if_neg hno]
          rfl
        · go_wp2
          have hrowF := ten_row HZM.out (.int .i64 (vv 10 4)) (.int .u64 (vv 0 8)) (.int .i64 (vv 8 2)) (.int .i64 (vv 14 1)) (.int .i64 (wrap64 (vv 15 8))) (.int .i64 (wrap64 (vv 23 8))) (.int .i64 (wrap64 (vv 31 8))) (.int .i64 (wrap64 (vv 39 8))) (.int .i64 (wrap64 (vv 47 8))) (.int .i64 (wrap64 (vv 55 8)))
          refine bodyPost_ret (v := .tuple #[.agg #[.int .i64 (vv 10 4), .int .u64 (vv 0 8), .int .i64 (vv 8 2), .int .i64 (vv 14 1), .int .i64 (wrap64 (vv 15 8)), .int .i64 (wrap64 (vv 23 8)), .int .i64 (wrap64 (vv 31 8)), .int .i64 (wrap64 (vv 39 8)), .int .i64 (wrap64 (vv 47 8)), .int .i64 (wrap64 (vv 55 8))], .int .i64 0]) (by simp [results, Try.results39, go_sem, fun i => cell_of_row _ _ i _ _ _ hrowF]) rfl ⟨?_, ten_below HBM.out (by simp) _ _ _ _ _ _ _ _ _ _⟩
          have hyes : m = 63 ∧ (pOf b).may = true := ⟨h63, HPM.out⟩
          rw [HRA'.out, HRC'.out, if_pos hyes, if_pos hyes, HP.out]
          rfl
      · rw [if_neg (fun h => h63 (HEND.out.1 h))]
        have hcz := fun j => cell_of_row w6 w.heap.size j _ _ _ hz6
        have hfz := fun j => frozen_of_row w6 w.heap.size j _ _ hz6
        clear hr6 hz6 hrz HPT HT HRQ
        go_wp2
        have hrowF := ten_row HZ6.out (.int .i64 0) (.int .u64 0) (.int .i64 0) (.int .i64 0) (.int .i64 0) (.int .i64 0) (.int .i64 0) (.int .i64 0) (.int .i64 0) (.int .i64 0)
        refine bodyPost_ret (v := .tuple #[.agg #[.int .i64 0, .int .u64 0, .int .i64 0, .int .i64 0, .int .i64 0, .int .i64 0, .int .i64 0, .int .i64 0, .int .i64 0, .int .i64 0], .int .i64 4]) (by simp [results, Try.results39, go_sem, fun i => cell_of_row _ _ i _ _ _ hrowF]) rfl ⟨?_, ten_below HB6.out (by simp) _ _ _ _ _ _ _ _ _ _⟩
        have hno : ¬ (m = 63 ∧ (pOf b).may = true) := fun h => h63 h.1
        rw [HRA'.out, HRC'.out, if_neg hno, if_neg hno]
        rfl
end Go.Proofs.Ytolfekbhlfjniaa

set_option linter.unusedVariables false
set_option linter.unusedSimpArgs false
namespace Go.Proofs.Ytolfekbhlfjniaa
open Go.RowKit

theorem rows_kept {T : List TypeId} {w w' : World} {base e n m : Nat} {v : Value} {xs : List Value} (h : w.ownsRow base e n v m xs) (ht : e ∉ T) (hk : Kept T w w') : w'.ownsRow base e n v m xs := by
  obtain ⟨h1, h2⟩ := h
  refine ⟨h1, ?_⟩
  rcases h2 with h2 | ⟨g, cap, cur, e1, hg, hh, h3⟩
  · exact .inl h2
  · exact .inr ⟨g, cap, cur, e1, hg, hk.block g cur e (0, 0) hh ht, h3⟩
theorem kept_rows {w w' : World} {base e n m : Nat} {v : Value} {xs : List Value} (h : w.ownsRow base e n v m xs) (hg : w.grownBy w' v.ownBlock) : Kept [e] w w' := by
  refine ⟨hg.size, fun i cs t fr hi ht => ?_⟩
  by_cases hb : some i = v.ownBlock
  · exfalso
    rcases h.2 with ⟨rfl, _⟩ | ⟨g, cap, cur, rfl, _, hh, _⟩
    · cases hb
    · injection hb with hb
      simp at hb
      subst hb
      rw [hi] at hh
      injection hh with hh
      injection hh with _ hh _
      exact ht (by rw [hh]; simp)
  · exact (hg.block i (block_lt hi) hb).trans hi

def lenV : Value → Nat
  | .slice _ n _ => n
  | _ => 0

set_option maxRecDepth 4000 in
set_option maxHeartbeats 40000000 in
theorem rpOf_any (v : Value) (b : List UInt8) (hlen : b.length ≤ 5000) (bv : Bool) (hbv : bv = true ↔ Rep.OkB b) (ev m x0 x1 x2 x3 x4 x5 : Int) (hsum : Post.sums (Rep.rowsK b (Rep.manyB b)) = ⟨ev, m, [x0, x1, x2, x3, x4, x5]⟩) (w : World) (hv : BS w v b) :
    Calls Try.prog 13 #[v] w fun e w' => Below w.heap.size w w' ∧ (bv = false ∧ e = .returned (.tuple #[.agg #[.int .i64 0, .int .i64 0, .slice none 0 0, .int .i64 0, .int .i64 0, .int .i64 0, .int .i64 0, .int .i64 0, .int .i64 0, .int .i64 0], .int .i64 4]) ∨ bv = true ∧ ∃ rv, LS Pst.cells 10 w' rv (Rep.rowsK b (Rep.manyB b)) ∧ e = .returned (.tuple #[.agg #[.int .i64 (Rep.frB b), .int .i64 (Rep.toB b), rv, .int .i64 m, .int .i64 x0, .int .i64 x1, .int .i64 x2, .int .i64 x3, .int .i64 x4, .int .i64 x5], .int .i64 0])) := by
  have HN1 : Hid (∀ (W : World) (base br : Nat), IsR W base br (stAt b 0) → Calls Try.prog 37 #[.pointer (some ⟨br, 0, none⟩), .int .i64 4] W fun e w' => e = .returned (.int .u64 (Rep.frB b)) ∧ RStep W w' base br (stAt b 4)) := Lib.hid (fun W base br h => by
    have := rnumber_any base br _ 4 W h
    rwa [show (4 : Int) = ((4 : Nat) : Int) from rfl, stAt_num b 0 4 (by omega)] at this)
  have HN2 : Hid (∀ (W : World) (base br : Nat), IsR W base br (stAt b 4) → Calls Try.prog 37 #[.pointer (some ⟨br, 0, none⟩), .int .i64 4] W fun e w' => e = .returned (.int .u64 (Rep.toB b)) ∧ RStep W w' base br (stAt b 8)) := Lib.hid (fun W base br h => by
    have := rnumber_any base br _ 4 W h
    rwa [show (4 : Int) = ((4 : Nat) : Int) from rfl, stAt_num b 4 4 (by omega)] at this)
  have HN3 : Hid (∀ (W : World) (base br : Nat), IsR W base br (stAt b 8) → Calls Try.prog 37 #[.pointer (some ⟨br, 0, none⟩), .int .i64 4] W fun e w' => e = .returned (.int .u64 (Rep.manyB b : Nat)) ∧ RStep W w' base br (stAt b (12 + 63 * 0))) := Lib.hid (fun W base br h => by
    have := rnumber_any base br _ 4 W h
    rwa [show (4 : Int) = ((4 : Nat) : Int) from rfl, stAt_num b 8 4 (by omega)] at this)
  have HBY : Hid (∀ (W : World) (base br k : Nat), IsR W base br (stAt b (12 + 63 * k)) → Calls Try.prog 40 #[.pointer (some ⟨br, 0, none⟩), .int .i64 63] W fun e w' => ∃ v, e = .returned v ∧ w'.ownsRow W.heap.size 5 1 v (Rep.chunk b k).length (bytesV (Rep.chunk b k)) ∧ RStep W w' base br (stAt b (12 + 63 * (k + 1)))) := Lib.hid (fun W base br k h => by
    have := rbytes_any base br _ 63 (by decide) W h
    rwa [show (63 : Int) = ((63 : Nat) : Int) from rfl, Rep.stAt_cut b (12 + 63 * k) 63] at this)
  have hh := Rep.headB b
  have h1 := hh.1
  have h2 := hh.2.1
  have h3 := hh.2.2
  have z1 : IntKind.i64.wrap (Rep.frB b) = Rep.frB b := by rw [IntKind.wrap_i64]; omega
  have z2 : IntKind.i64.wrap (Rep.toB b) = Rep.toB b := by rw [IntKind.wrap_i64]; omega
  have z3 : IntKind.i64.wrap ((Rep.manyB b : Nat) : Int) = ((Rep.manyB b : Nat) : Int) := by rw [IntKind.wrap_i64]; omega
  have HRD := Lib.hid (fun W h => read_any v b (by omega) W h)
  rw [← stAt_zero b] at HRD
  have HV := Lib.hid hv
  have HBV := Lib.hid hbv
  have HSUM := Lib.hid hsum
  have HLEN := Lib.hid hlen
  clear hh hbv hsum hlen
  obtain ⟨p, cap, rfl, g1, g2, -⟩ := hv
  have HOK : Hid (Rep.OkB b ↔ b.length = 12 + 63 * Rep.manyB b ∧ Rep.days (Rep.frB b) (Rep.toB b) = true ∧ Rep.FineP (Rep.rowsK b (Rep.manyB b)) ∧ (∀ z ∈ Rep.rowsK b (Rep.manyB b), Rep.within (Rep.frB b) (Rep.toB b) z = true) ∧ Srt.Up keyP (Rep.rowsK b (Rep.manyB b)) ∧ (Post.sums (Rep.rowsK b (Rep.manyB b))).e = 0) := Lib.hid Iff.rfl
  have HCL := Lib.hid (fun k => Rep.chunk_len b k)
  have HLF : Hid (∀ (W : World) (base br k : Nat), IsR W base br (stAt b (12 + 63 * k)) → Calls Try.prog 38 #[.pointer (some ⟨br, 0, none⟩)] W fun e w' => e = .returned (.int .i64 ((b.length - (12 + 63 * k) : Nat) : Int)) ∧ ∃ n, w' = W.drewN n) := Lib.hid (fun W base br k h => by
    have := rleft_any base br _ W h
    rwa [Rep.stAt_len] at this)
  have HEN : Hid (∀ (W : World) (base br k : Nat), IsR W base br (stAt b (12 + 63 * k)) → Calls Try.prog 41 #[.pointer (some ⟨br, 0, none⟩)] W fun e w' => e = .returned (.int .i64 (if b.length = 12 + 63 * k then 0 else 4)) ∧ ∃ n, w' = W.drewN n) := Lib.hid (fun W base br k h => by
    have := rend_any base br _ W h
    simp only [Rep.stAt_nil] at this
    exact this)
  have HPO := Lib.hid (fun k v W h => pOf_any v (Rep.chunk b k) (Nat.le_trans (Rep.chunk_le b k) (by decide)) W h)
  have HS0 := Lib.hid (stAt_zero b)
  generalize Rep.frB b = F at *
  generalize Rep.toB b = T at *
  generalize Rep.manyB b = M at *
  generalize b.length = B at *
  go_enter Try.func13, Try.ntmps13
  go_wp2_with fail
  have hbz := (Below.refl w.heap.size w).alloc (Nat.le_refl _) (.cells #[.int .i64 0, .int .i64 0, .slice none 0 0, .int .i64 0, .int .i64 0, .int .i64 0, .int .i64 0, .int .i64 0, .int .i64 0, .int .i64 0] 27 (0, 0))
  have hrz : (w.alloc (.cells #[.int .i64 0, .int .i64 0, .slice none 0 0, .int .i64 0, .int .i64 0, .int .i64 0, .int .i64 0, .int .i64 0, .int .i64 0, .int .i64 0] 27)).heap[w.heap.size]? = some (.cells #[.int .i64 0, .int .i64 0, .slice none 0 0, .int .i64 0, .int .i64 0, .int .i64 0, .int .i64 0, .int .i64 0, .int .i64 0, .int .i64 0] 27 (0, 0)) := new_row w _ _ rfl
  have HBZ := Lib.hid hbz
  have HVZ := Lib.hid (HV.out.alloc (.cells #[.int .i64 0, .int .i64 0, .slice none 0 0, .int .i64 0, .int .i64 0, .int .i64 0, .int .i64 0, .int .i64 0, .int .i64 0, .int .i64 0] 27 (0, 0)))
  generalize w.alloc (.cells #[.int .i64 0, .int .i64 0, .slice none 0 0, .int .i64 0, .int .i64 0, .int .i64 0, .int .i64 0, .int .i64 0, .int .i64 0, .int .i64 0] 27) = W0 at *
  have hlz : w.heap.size < W0.heap.size := block_lt hrz
  have HRZ := Lib.hid hrz
  clear hbz hrz
  refine (HRD.out _ HVZ.out).mono ?_
  rintro e w1 ⟨br, rfl, hr, hb1⟩
  have HI1 := Lib.hid hr
  have HB1 := Lib.hid hb1
  clear hr hb1
  go_wp2_with fail
  refine (HN1.out w1 W0.heap.size br HI1.out).mono ?_
  rintro e w2 ⟨rfl, hr⟩
  have HI2 := Lib.hid hr.1
  have HB2 := Lib.hid (HB1.out.trans hr.2.1)
  clear hr
  go_wp2_with fail
  refine (HN2.out w2 W0.heap.size br HI2.out).mono ?_
  rintro e w3 ⟨rfl, hr⟩
  have HI3 := Lib.hid hr.1
  have HB3 := Lib.hid (HB2.out.trans hr.2.1)
  clear hr
  go_wp2_with fail
  refine (HN3.out w3 W0.heap.size br HI3.out).mono ?_
  rintro e w4 ⟨rfl, hr⟩
  have HI4 := Lib.hid hr.1
  have HB4 := Lib.hid (HB3.out.trans hr.2.1)
  clear hr
  go_wp2
  go_loopw [8] (fun v wr => ∃ k : Nat, k ≤ M ∧ 63 * k ≤ B ∧ wr.ownsRow W0.heap.size 38 10 v k (encL Pst.cells (Rep.rowsK b k)) ∧ IsR wr W0.heap.size br (stAt b (12 + 63 * k)) ∧ Below W0.heap.size W0 wr) (fun v _ => M - lenV v)
  case atStart => exact ⟨0, Nat.zero_le _, Nat.zero_le _, World.ownsRow_nil _ _ _ _, HI4.out, HB4.out⟩
  case round =>
    obtain ⟨k, hk, hkB, hown, hisr, hbw⟩ := hrel
    have HO := Lib.hid hown; have HI := Lib.hid hisr; have HBW := Lib.hid hbw
    have hls := LS.of_own hown Pst.cells_length (by decide)
    obtain ⟨pk, ck, hvk⟩ := hls.shape
    rw [Rep.rowsK_length] at hvk
    subst hvk
    have hkc : k ≤ ck ∧ ck ≤ 9223372036854775807 := by have h1 := hls.length; simp only [maxLen] at h1; exact ⟨h1.2.1, h1.2.2⟩
    obtain ⟨hkc1, hkc2⟩ := hkc
    have HLS := Lib.hid hls
    clear hown hisr hbw hls
    have HL0 := Lib.hid (HLF.out wr W0.heap.size br k HI.out)
    obtain ⟨L, hL⟩ : ∃ L, B - (12 + 63 * k) = L := ⟨_, rfl⟩
    rw [hL] at HL0
    by_cases hgo : 0 < L ∧ k < M
    · obtain ⟨hg1, hg2⟩ := hgo
      go_wp2_with fail
      refine HL0.out.mono ?_
      rintro e w5 ⟨rfl, nd, rfl⟩
      have HI5 := Lib.hid (HI.out.drewN nd)
      have HO5 := Lib.hid (recs_below HO.out (below_drewN wr nd))
      have HB5 : Hid (Below W0.heap.size W0 (wr.drewN nd)) := Lib.hid (HBW.out.trans ⟨rfl, rfl, rfl, Nat.le_refl _, fun _ _ => rfl⟩)
      generalize wr.drewN nd = w5 at *
      go_wp2_with fail
      refine (HBY.out w5 W0.heap.size br k HI5.out).mono ?_
      rintro e w6 ⟨cv, rfl, hcv, hr⟩
      have HCV := Lib.hid (BS.of_own hcv)
      have HI6 := Lib.hid hr.1
      have HB6 := Lib.hid (HB5.out.trans hr.2.1)
      have HO6 := Lib.hid (rows_kept HO5.out (by decide) hr.2.2)
      clear hcv hr
      go_wp2_with fail
      refine (HPO.out k cv w6 HCV.out).mono ?_
      rintro e w7 ⟨rfl, hb7⟩
      have HI7 := Lib.hid (HI6.out.below hb7)
      have HO7 := Lib.hid (recs_below HO6.out hb7)
      have HB7 := Lib.hid (HB6.out.trans (hb7.mono HB6.out.size))
      clear hb7
      by_cases hq : (Rep.chunk b k).length = 63 ∧ (pOf (Rep.chunk b k)).may = true
      · rw [if_pos hq, if_pos hq]
        have HKB : Hid (63 * (k + 1) ≤ B) := Lib.hid (by have := (HCL.out k).1 hq.1; omega)
        obtain ⟨x, hx⟩ : ∃ x, pOf (Rep.chunk b k) = x := ⟨_, rfl⟩
        have HT : Hid (Rep.rowsK b (k + 1) = Rep.rowsK b k ++ [x]) := Lib.hid (by rw [Rep.rowsK_succ, hx])
        rw [hx, show x.cells.toArray = (#[.int .i64 x.d, .int .u64 x.t, .int .i64 x.s, .int .i64 x.k, .int .i64 x.a0, .int .i64 x.a1, .int .i64 x.a2, .int .i64 x.a3, .int .i64 x.a4, .int .i64 x.a5] : Array Value) from rfl]
        have HA8 := Lib.hid ((Below.refl w7.heap.size w7).alloc (Nat.le_refl _) (.cells #[.int .i64 x.d, .int .u64 x.t, .int .i64 x.s, .int .i64 x.k, .int .i64 x.a0, .int .i64 x.a1, .int .i64 x.a2, .int .i64 x.a3, .int .i64 x.a4, .int .i64 x.a5] 38 (0, 0)))
        have HI8 := Lib.hid (HI7.out.below HA8.out)
        have HO8 := Lib.hid (recs_below HO7.out HA8.out)
        have HB8 := Lib.hid (HB7.out.trans (HA8.out.mono HB7.out.size))
        have hrow8 := new_row w7 (.cells #[.int .i64 x.d, .int .u64 x.t, .int .i64 x.s, .int .i64 x.k, .int .i64 x.a0, .int .i64 x.a1, .int .i64 x.a2, .int .i64 x.a3, .int .i64 x.a4, .int .i64 x.a5] 38 (0, 0)) _ rfl
        have hc8 := fun j => cell_of_row _ w7.heap.size j _ _ _ hrow8
        clear hq hx hrow8
        go_wp2_with (at_builtin; refine wpList_append_recs elemP rfl _ _ rfl W0.heap.size (.slice pk k ck) k (Rep.rowsK b k) rfl ?co _ [x] rfl ?cp ?ca ?cb ?_)
        case co => exact recs_below HO8.out ((Below.refl _ _).alloc (Nat.le_refl _) _)
        case cp => exact row_one (x := x) (new_rowW _ _ _ (by simp)) rfl Pst.cells_length (by decide)
        case ca => have := HLEN.out; simp <;> omega
        case cb => have := HB7.out.size; simp; omega
        intro v2 w2 hown2 hg2 hn2 hat2
        have HA9 := Lib.hid (HA8.out.alloc HA8.out.size (.cells #[.int .i64 x.d, .int .u64 x.t, .int .i64 x.s, .int .i64 x.k, .int .i64 x.a0, .int .i64 x.a1, .int .i64 x.a2, .int .i64 x.a3, .int .i64 x.a4, .int .i64 x.a5] 38 (0, 0)))
        have HO9 := Lib.hid (recs_below HO7.out HA9.out)
        have HI9 : Hid (IsR w2 W0.heap.size br (stAt b (12 + 63 * (k + 1)))) := Lib.hid ((HI7.out.below HA9.out).keptU (by decide) (by decide) (kept_rows HO9.out hg2))
        have HB9 : Hid (Below W0.heap.size W0 w2) := Lib.hid ((HB7.out.trans (HA9.out.mono HB7.out.size)).grown hg2 (by have := HB7.out.size; simp <;> omega) (fun b hb => (recs_base HO9.out hb).1))
        have HO2 : Hid (w2.ownsRow W0.heap.size 38 10 v2 (k + 1) (encL Pst.cells (Rep.rowsK b (k + 1)))) := Lib.hid (by rw [HT.out]; exact hown2)
        clear hown2 hg2 hn2 hat2 hc8
        go_wp2
        go_roundw
        case rel => exact ⟨k + 1, by omega, HKB.out, HO2.out, HI9.out, HB9.out⟩
        case measure =>
          obtain ⟨q2, c2, hv2⟩ := (LS.of_own HO2.out Pst.cells_length (by decide)).shape
          rw [hv2]
          simp [lenV, Rep.rowsK_length]; omega
      · rw [if_neg hq, if_neg hq]
        have hbvf : bv = false := by
          cases h : bv
          · rfl
          · exfalso
            obtain ⟨g1, _, g3, _⟩ := HOK.out.1 (HBV.out.1 h)
            exact hq ⟨(HCL.out k).2 (by omega), g3.1 _ (Rep.rowsK_mem hg2)⟩
        rw [show zeroP.cells.toArray = (#[.int .i64 0, .int .u64 0, .int .i64 0, .int .i64 0, .int .i64 0, .int .i64 0, .int .i64 0, .int .i64 0, .int .i64 0, .int .i64 0] : Array Value) from rfl]
        have hrz := (HB7.out.block w.heap.size hlz).trans HRZ.out
        have HZ := Lib.hid (row_alloc hrz (.cells #[.int .i64 0, .int .u64 0, .int .i64 0, .int .i64 0, .int .i64 0, .int .i64 0, .int .i64 0, .int .i64 0, .int .i64 0, .int .i64 0] 38 (0, 0)))
        have hcz := fun j => cell_of_row _ w.heap.size j _ _ _ HZ.out
        have hfz := fun j => frozen_of_row _ w.heap.size j _ _ HZ.out
        have HBF : Hid (Below w.heap.size w w7) := Lib.hid (HBZ.out.trans (HB7.out.mono HBZ.out.size))
        clear hrz hq
        go_wp2
        have hrowF := ten_row HZ.out (.int .i64 0) (.int .i64 0) (.slice none 0 0) (.int .i64 0) (.int .i64 0) (.int .i64 0) (.int .i64 0) (.int .i64 0) (.int .i64 0) (.int .i64 0)
        refine bodyPost_ret (v := .tuple #[.agg #[.int .i64 0, .int .i64 0, .slice none 0 0, .int .i64 0, .int .i64 0, .int .i64 0, .int .i64 0, .int .i64 0, .int .i64 0, .int .i64 0], .int .i64 4]) (by simp [results, Try.results13, go_sem, fun i => cell_of_row _ _ i _ _ _ hrowF]) rfl ⟨ten_below (balloc HBF.out _) (Nat.le_refl _) _ _ _ _ _ _ _ _ _ _, .inl ⟨hbvf, rfl⟩⟩
    · have HEX : Hid (Rep.OkB b → k = M) := Lib.hid (fun h => by have := (HOK.out.1 h).1; omega)
      have hso := Post.sums_fine (Rep.rowsK b k)
      obtain ⟨y0, y1, y2, y3, y4, y5, hx⟩ := Post.six_of hso.1
      obtain ⟨m', hmm⟩ : ∃ m', (Post.sums (Rep.rowsK b k)).m = m' := ⟨_, rfl⟩
      obtain ⟨ev', hev⟩ : ∃ m', (Post.sums (Rep.rowsK b k)).e = m' := ⟨_, rfl⟩
      have hsm : Post.sums (Rep.rowsK b k) = ⟨ev', m', [y0, y1, y2, y3, y4, y5]⟩ := by rw [← hx, ← hmm, ← hev]
      have HSM := Lib.hid hsm
      have HMB := Lib.hid (fun W h => made_bad F T (Rep.rowsK b k) pk k ck W h ev' m' y0 y1 y2 y3 y4 y5 hsm)
      have HMO := Lib.hid (fun W h (he : ev' = 0) => made_ok F T (Rep.rowsK b k) pk k ck W h m' y0 y1 y2 y3 y4 y5 (he ▸ hsm))
      clear hx hmm hev hso
      obtain ⟨qm, hqm⟩ : ∃ qm : Bool, qm = true ↔ k = M := ⟨decide (k = M), by simp⟩
      have HQM := Lib.hid hqm
      have HF0 : Hid (¬ ev' = 0 → bv = false) := Lib.hid (fun hev => by
        cases h : bv
        · rfl
        · exfalso
          have h1 := HBV.out.1 h
          have h2 := (HOK.out.1 h1).2.2.2.2.2
          rw [← HEX.out h1, hsm] at h2
          exact hev h2)
      have HF1 : Hid (¬ (B = 12 + 63 * k ∧ k = M) → bv = false) := Lib.hid (fun hev => by
        cases h : bv
        · rfl
        · exfalso
          have h1 := HBV.out.1 h
          have h2 := (HOK.out.1 h1).1
          rw [← HEX.out h1] at h2
          exact hev ⟨h2, HEX.out h1⟩)
      have HEQ : Hid (k = M → m' = m ∧ y0 = x0 ∧ y1 = x1 ∧ y2 = x2 ∧ y3 = x3 ∧ y4 = x4 ∧ y5 = x5) := Lib.hid (fun h => by
        have h1 := HSUM.out
        rw [← h, hsm] at h1
        injection h1 with e1 e2 e3
        simp only [List.cons.injEq, and_true] at e3
        exact ⟨e2, e3⟩)
      have HQ : Hid (k = M → B = 12 + 63 * k → ev' = 0 → (bv = true ↔ Rep.MayP F T (Rep.rowsK b k) m' [y0, y1, y2, y3, y4, y5])) := Lib.hid (fun h1 h2 h3 => by
        rw [HBV.out, HOK.out, ← h1]
        constructor
        · rintro ⟨g1, g2, g3, g4, g5, g6⟩
          exact ⟨g2, g3, g4, g5, by rw [hsm, h3]⟩
        · rintro ⟨g2, g3, g4, g5, g6⟩
          exact ⟨h2, g2, g3, g4, g5, by rw [g6]⟩)
      clear hsm hqm
      rcases (by omega : L = 0 ∨ (0 < L ∧ ¬ k < M)) with hx | ⟨hx1, hx2⟩
      all_goals
        go_wp2_with fail
        refine HL0.out.mono ?_
        rintro e w5 ⟨rfl, nd, rfl⟩
        have HI5 := Lib.hid (HI.out.drewN nd)
        have HBR5 := Lib.hid (below_drewN wr nd)
        have HLS5 := Lib.hid (ps_of_ls (HLS.out.below (below_drewN wr nd)) (Rep.rowsK_wf b k))
        have HB5 : Hid (Below W0.heap.size W0 (wr.drewN nd)) := Lib.hid (HBW.out.trans ⟨rfl, rfl, rfl, Nat.le_refl _, fun _ _ => rfl⟩)
        generalize wr.drewN nd = w5 at *
        go_wp2_with fail
        by_cases hev : ev' = 0
        · refine (HMO.out w5 HLS5.out hev).mono ?_
          rintro e w6 ⟨rfl, hb6⟩
          have HB6 := Lib.hid (HB5.out.trans (hb6.mono HB5.out.size))
          have HBR6 := Lib.hid (HBR5.out.trans (hb6.mono HBR5.out.size))
          have hrz := (HB6.out.block w.heap.size hlz).trans HRZ.out
          have HZ := Lib.hid (row_alloc hrz (.cells #[.int .i64 F, .int .i64 T, (.slice pk k ck), .int .i64 m', .int .i64 y0, .int .i64 y1, .int .i64 y2, .int .i64 y3, .int .i64 y4, .int .i64 y5] 27 (0, 0)))
          have HA := Lib.hid (new_row w6 (.cells #[.int .i64 F, .int .i64 T, (.slice pk k ck), .int .i64 m', .int .i64 y0, .int .i64 y1, .int .i64 y2, .int .i64 y3, .int .i64 y4, .int .i64 y5] 27 (0, 0)) _ rfl)
          have HLA := Lib.hid ((HLS5.out.below hb6).below ((Below.refl _ _).alloc (Nat.le_refl _) (.cells #[.int .i64 F, .int .i64 T, (.slice pk k ck), .int .i64 m', .int .i64 y0, .int .i64 y1, .int .i64 y2, .int .i64 y3, .int .i64 y4, .int .i64 y5] 27 (0, 0))))
          have HIA := Lib.hid ((HI5.out.below hb6).below ((Below.refl _ _).alloc (Nat.le_refl _) (.cells #[.int .i64 F, .int .i64 T, (.slice pk k ck), .int .i64 m', .int .i64 y0, .int .i64 y1, .int .i64 y2, .int .i64 y3, .int .i64 y4, .int .i64 y5] 27 (0, 0))))
          have HBA : Hid (Below w.heap.size w (w6.alloc (.cells #[.int .i64 F, .int .i64 T, (.slice pk k ck), .int .i64 m', .int .i64 y0, .int .i64 y1, .int .i64 y2, .int .i64 y3, .int .i64 y4, .int .i64 y5] 27 (0, 0)))) := Lib.hid (balloc (HBZ.out.trans (HB6.out.mono HBZ.out.size)) _)
          have HBRA := Lib.hid (balloc HBR6.out (.cells #[.int .i64 F, .int .i64 T, (.slice pk k ck), .int .i64 m', .int .i64 y0, .int .i64 y1, .int .i64 y2, .int .i64 y3, .int .i64 y4, .int .i64 y5] 27 (0, 0)))
          clear hrz hb6
          go_wp2_with fail
          refine (HEN.out _ W0.heap.size br k HIA.out).mono ?_
          rintro e w7 ⟨rfl, nd, rfl⟩
          generalize w6.alloc (.cells #[.int .i64 F, .int .i64 T, (.slice pk k ck), .int .i64 m', .int .i64 y0, .int .i64 y1, .int .i64 y2, .int .i64 y3, .int .i64 y4, .int .i64 y5] 27 (0, 0)) = w7 at *
          have HG6 : Hid (¬ w6.heap.size = w.heap.size) := Lib.hid (by have := HB6.out.size; omega)
          generalize w6.heap.size = g6 at *
          by_cases hE : B = 12 + 63 * k
          · try (exfalso; omega)
            all_goals
              rw [if_pos hE]
              cases qm
              · have hne : ¬ k = M := fun h => by have := HQM.out.2 h; cases this
                have hbvf := HF1.out (fun h => hne h.2)
                have hcz := fun j => cell_of_row (w7.drewN nd) w.heap.size j _ _ _ (show (w7.drewN nd).heap[w.heap.size]? = _ from HZ.out)
                have hfz := fun j => frozen_of_row (w7.drewN nd) w.heap.size j _ _ (show (w7.drewN nd).heap[w.heap.size]? = _ from HZ.out)
                have HBF : Hid (Below w.heap.size w (w7.drewN nd)) := Lib.hid (HBA.out.trans ⟨rfl, rfl, rfl, Nat.le_refl _, fun _ _ => rfl⟩)
                have HZ7 : Hid ((w7.drewN nd).heap[w.heap.size]? = _) := Lib.hid HZ.out
                go_wp2
                have hrowF := ten_row HZ7.out (.int .i64 0) (.int .i64 0) (.slice none 0 0) (.int .i64 0) (.int .i64 0) (.int .i64 0) (.int .i64 0) (.int .i64 0) (.int .i64 0) (.int .i64 0)
                refine bodyPost_ret (v := .tuple #[.agg #[.int .i64 0, .int .i64 0, .slice none 0 0, .int .i64 0, .int .i64 0, .int .i64 0, .int .i64 0, .int .i64 0, .int .i64 0, .int .i64 0], .int .i64 4]) (by simp [results, Try.results13, go_sem, fun i => cell_of_row _ _ i _ _ _ hrowF]) rfl ⟨ten_below HBF.out (Nat.le_refl _) _ _ _ _ _ _ _ _ _ _, .inl ⟨hbvf, rfl⟩⟩
              · have hkm := HQM.out.1 rfl
                obtain ⟨e1, e2, e3, e4, e5, e6, e7⟩ := HEQ.out hkm
                subst e1 e2 e3 e4 e5 e6 e7
                have HMY := Lib.hid (fun W h => pMay_any F T (Rep.rowsK b k) pk k ck m' y0 y1 y2 y3 y4 y5 bv (HQ.out hkm hE hev) W h)
                subst hkm
                have hcA := fun j => cell_of_row (w7.drewN nd) g6 j _ _ _ (show (w7.drewN nd).heap[g6]? = _ from HA.out)
                go_wp2_with fail
                refine (HMY.out _ (HLA.out.below (below_drewN w7 nd))).mono ?_
                rintro e w8 ⟨rfl, hb8⟩
                have HB78 : Hid (Below w7.heap.size w7 w8) := Lib.hid ((below_drewN w7 nd).trans hb8)
                have hz8 := (HB78.out.block w.heap.size (block_lt HZ.out)).trans HZ.out
                have hA8 := (HB78.out.block g6 (block_lt HA.out)).trans HA.out
                have HZ8 := Lib.hid hz8
                have hcz := fun j => cell_of_row w8 w.heap.size j _ _ _ hz8
                have hfz := fun j => frozen_of_row w8 w.heap.size j _ _ hz8
                have hcA := fun j => cell_of_row w8 g6 j _ _ _ hA8
                have HBF : Hid (Below w.heap.size w w8) := Lib.hid (HBA.out.trans (HB78.out.mono HBA.out.size))
                have HBR8 : Hid (Below wr.heap.size wr w8) := Lib.hid (HBRA.out.trans (HB78.out.mono HBRA.out.size))
                have hne6 : ¬ g6 = w.heap.size := HG6.out
                clear hz8 hA8 hb8
                cases bv
                · go_wp2
                  have hrowF := ten_row HZ8.out (.int .i64 0) (.int .i64 0) (.slice none 0 0) (.int .i64 0) (.int .i64 0) (.int .i64 0) (.int .i64 0) (.int .i64 0) (.int .i64 0) (.int .i64 0)
                  refine bodyPost_ret (v := .tuple #[.agg #[.int .i64 0, .int .i64 0, .slice none 0 0, .int .i64 0, .int .i64 0, .int .i64 0, .int .i64 0, .int .i64 0, .int .i64 0, .int .i64 0], .int .i64 4]) (by simp [results, Try.results13, go_sem, fun i => cell_of_row _ _ i _ _ _ hrowF]) rfl ⟨ten_below HBF.out (Nat.le_refl _) _ _ _ _ _ _ _ _ _ _, rfl⟩
                · go_wp2
                  have hrowF := ten_row HZ8.out (.int .i64 F) (.int .i64 T) (.slice pk k ck) (.int .i64 m') (.int .i64 y0) (.int .i64 y1) (.int .i64 y2) (.int .i64 y3) (.int .i64 y4) (.int .i64 y5)
                  refine bodyPost_ret (v := .tuple #[.agg #[.int .i64 F, .int .i64 T, (.slice pk k ck), .int .i64 m', .int .i64 y0, .int .i64 y1, .int .i64 y2, .int .i64 y3, .int .i64 y4, .int .i64 y5], .int .i64 0]) (by simp [results, Try.results13, go_sem, fun i => cell_of_row _ _ i _ _ _ hrowF]) rfl ⟨ten_below HBF.out (Nat.le_refl _) _ _ _ _ _ _ _ _ _ _, _, ?_, rfl⟩
                  exact LS.of_own (own_only HO.out HBR8.out (ten_only (.refl _ _) _ _ _ _ _ _ _ _ _ _) hlz (Nat.le_refl _)) Pst.cells_length (by decide)
          · rw [if_neg hE]
            have hbvf := HF1.out (fun h => hE h.1)
            have hcz := fun j => cell_of_row (w7.drewN nd) w.heap.size j _ _ _ (show (w7.drewN nd).heap[w.heap.size]? = _ from HZ.out)
            have hfz := fun j => frozen_of_row (w7.drewN nd) w.heap.size j _ _ (show (w7.drewN nd).heap[w.heap.size]? = _ from HZ.out)
            have HBF : Hid (Below w.heap.size w (w7.drewN nd)) := Lib.hid (HBA.out.trans ⟨rfl, rfl, rfl, Nat.le_refl _, fun _ _ => rfl⟩)
            have HZ7 : Hid ((w7.drewN nd).heap[w.heap.size]? = _) := Lib.hid HZ.out
            go_wp2
            have hrowF := ten_row HZ7.out (.int .i64 0) (.int .i64 0) (.slice none 0 0) (.int .i64 0) (.int .i64 0) (.int .i64 0) (.int .i64 0) (.int .i64 0) (.int .i64 0) (.int .i64 0)
            refine bodyPost_ret (v := .tuple #[.agg #[.int .i64 0, .int .i64 0, .slice none 0 0, .int .i64 0, .int .i64 0, .int .i64 0, .int .i64 0, .int .i64 0, .int .i64 0, .int .i64 0], .int .i64 4]) (by simp [results, Try.results13, go_sem, fun i => cell_of_row _ _ i _ _ _ hrowF]) rfl ⟨ten_below HBF.out (Nat.le_refl _) _ _ _ _ _ _ _ _ _ _, .inl ⟨hbvf, rfl⟩⟩
        · have hbvf := HF0.out hev
          refine (HMB.out w5 HLS5.out hev).mono ?_
          rintro e w6 ⟨rfl, hb6⟩
          have HB6 := Lib.hid (HB5.out.trans (hb6.mono HB5.out.size))
          have hrz := (HB6.out.block w.heap.size hlz).trans HRZ.out
          have HZ := Lib.hid (row_alloc hrz (.cells #[.int .i64 0, .int .i64 0, .slice none 0 0, .int .i64 0, .int .i64 0, .int .i64 0, .int .i64 0, .int .i64 0, .int .i64 0, .int .i64 0] 27 (0, 0)))
          have hcz := fun j => cell_of_row _ w.heap.size j _ _ _ HZ.out
          have hfz := fun j => frozen_of_row _ w.heap.size j _ _ HZ.out
          have HBF : Hid (Below w.heap.size w w6) := Lib.hid (HBZ.out.trans (HB6.out.mono HBZ.out.size))
          clear hrz hb6
          go_wp2
          have hrowF := ten_row HZ.out (.int .i64 0) (.int .i64 0) (.slice none 0 0) (.int .i64 0) (.int .i64 0) (.int .i64 0) (.int .i64 0) (.int .i64 0) (.int .i64 0) (.int .i64 0)
          refine bodyPost_ret (v := .tuple #[.agg #[.int .i64 0, .int .i64 0, .slice none 0 0, .int .i64 0, .int .i64 0, .int .i64 0, .int .i64 0, .int .i64 0, .int .i64 0, .int .i64 0], .int .i64 4]) (by simp [results, Try.results13, go_sem, fun i => cell_of_row _ _ i _ _ _ hrowF]) rfl ⟨ten_below (balloc HBF.out _) (Nat.le_refl _) _ _ _ _ _ _ _ _ _ _, .inl ⟨hbvf, rfl⟩⟩
end Go.Proofs.Ytolfekbhlfjniaa

set_option linter.unusedVariables false
set_option linter.unusedSimpArgs false
namespace Go.Proofs.Ytolfekbhlfjniaa
open Go.ChangeShapes Go.WideShapes Go.ChangeAt Go.RowKit Go.Deep

theorem repCells : Try.prog.cellsOf 27 = 10 := by kernel_rfl
theorem totCells : Try.prog.cellsOf 25 = 7 := by kernel_rfl
section
variable {H : Type} {enc : TypeId × Value → H} {W : World} {held : Bool}
set_option maxRecDepth 10000 in
theorem open_totals {n : Nat} {cs : List Value} {x : DataW H × List MemPlace} (h : DataW.trod enc Try.prog W 0 (fun _ => true) held n 25 cs = some x) :
    ∃ m x0 x1 x2 x3 x4 x5 : Int, cs = [.int .i64 m, .int .i64 x0, .int .i64 x1, .int .i64 x2, .int .i64 x3, .int .i64 x4, .int .i64 x5] := by
  obtain ⟨xs, m, _, hx, hl, hxl, hf⟩ := DataW.trod_struct Try.underlying25 h
  rw [totCells] at hl
  match cs, hl with
  | [c0, c1, c2, c3, c4, c5, c6], _ =>
    have g : ∀ i, i < 7 → ∃ y, xs[i]? = some y := fun i hi => ⟨_, List.getElem?_eq_getElem (by simp at hxl; omega)⟩
    obtain ⟨y0, e0⟩ := g 0 (by omega)
    obtain ⟨y1, e1⟩ := g 1 (by omega)
    obtain ⟨y2, e2⟩ := g 2 (by omega)
    obtain ⟨y3, e3⟩ := g 3 (by omega)
    obtain ⟨y4, e4⟩ := g 4 (by omega)
    obtain ⟨y5, e5⟩ := g 5 (by omega)
    obtain ⟨y6, e6⟩ := g 6 (by omega)
    obtain ⟨z0, f0, -, w0⟩ := DataW.trod_int (k := .i64) Try.underlying3 ((hf 0 _ rfl).trans e0)
    obtain ⟨z1, f1, -, w1⟩ := DataW.trod_int (k := .i64) Try.underlying2 ((hf 1 _ rfl).trans e1)
    obtain ⟨z2, f2, -, w2⟩ := DataW.trod_int (k := .i64) Try.underlying2 ((hf 2 _ rfl).trans e2)
    obtain ⟨z3, f3, -, w3⟩ := DataW.trod_int (k := .i64) Try.underlying2 ((hf 3 _ rfl).trans e3)
    obtain ⟨z4, f4, -, w4⟩ := DataW.trod_int (k := .i64) Try.underlying2 ((hf 4 _ rfl).trans e4)
    obtain ⟨z5, f5, -, w5⟩ := DataW.trod_int (k := .i64) Try.underlying2 ((hf 5 _ rfl).trans e5)
    obtain ⟨z6, f6, -, w6⟩ := DataW.trod_int (k := .i64) Try.underlying2 ((hf 6 _ rfl).trans e6)
    have c1i : Try.prog.cellsOf 3 = 1 := by kernel_rfl
    have c1l : Try.prog.cellsOf 2 = 1 := by kernel_rfl
    simp [c1i, c1l] at f0 f1 f2 f3 f4 f5 f6
    subst f0 f1 f2 f3 f4 f5 f6
    exact ⟨z0, z1, z2, z3, z4, z5, z6, rfl⟩

set_option maxRecDepth 10000 in
theorem open_posts_cell {fuel : Nat} {cs : List Value} {x : DataW H × List MemPlace} (hf : DataW.trod enc Try.prog W 0 (fun _ => true) held fuel 22 cs = some x) : ∃ (v : Value) (l : List Pst), cs = [v] ∧ PS W v l := by
  rcases open_slice Try.underlying22 hf with ⟨h0, _⟩ | ⟨a, len, cap, m, n, D, Pl, h0, hb, hl, hm, hmm, hx, hi⟩
  · exact ⟨_, [], h0, none, 0, rfl, Nat.le_refl _, Nat.zero_le _, fun x hx => absurd hx (by simp), fun h => absurd rfl h⟩
  · simp only [ite_true] at hmm
    subst hmm
    have key : ∀ i, i < len → ∃ p : Pst, p.wf ∧ ∀ j, j < 10 → W.cell? ((a.add (i * 10)).add j) = p.cells[j]? := by
      intro i hil
      obtain ⟨cs', h1, h2⟩ := hi i (by omega)
      obtain ⟨p, rfl, hw⟩ := open_post h2
      rw [postCells] at h1
      obtain ⟨_, _, hcell⟩ := World.cells?_some h1
      exact ⟨p, hw, hcell⟩
    have : Inhabited Pst := ⟨⟨0, 0, 0, 0, 0, 0, 0, 0, 0, 0⟩⟩
    obtain ⟨f, hf⟩ := choose_lt key
    refine ⟨_, (List.range len).map f, h0, some a, m, by simp, by simpa using hl, hm, ?_, ?_⟩
    · intro x hx
      obtain ⟨i, hi, rfl⟩ := List.mem_map.1 hx
      exact (hf i (List.mem_range.1 hi)).1
    · intro hne
      have hpos : 0 < len := by
        rcases Nat.eq_zero_or_pos len with h | h
        · subst h; simp at hne
        · exact h
      obtain ⟨b, o, he, hlt, _⟩ := wide_cells (n := 10) (cs := (f 0).cells) rfl (hf 0 hpos).2 (by omega)
      rw [Nat.zero_mul] at he
      have ha : a = ⟨b, o, none⟩ := by simpa [Addr.add] using he
      subst ha
      refine ⟨b, o, rfl, hlt, fun i x hx => ?_⟩
      rw [List.getElem?_map] at hx
      rcases Nat.lt_or_ge i len with hil | hil
      · rw [List.getElem?_range hil] at hx
        injection hx with hx
        subst hx
        have hg := (hf i hil).2
        rw [Go.WideShapes.add_plain] at hg
        have hg' : ∀ j, j < 10 → W.cell? ⟨b, o + i * 10 + j, none⟩ = (f i).cells[j]? := fun j hj => by have := hg j hj; rwa [Go.WideShapes.add_plain] at this
        exact ⟨hg' 0 (by omega), hg' 1 (by omega), hg' 2 (by omega), hg' 3 (by omega), hg' 4 (by omega), hg' 5 (by omega), hg' 6 (by omega), hg' 7 (by omega), hg' 8 (by omega), hg' 9 (by omega)⟩
      · rw [List.getElem?_eq_none (by simpa using hil)] at hx
        cases hx

set_option maxRecDepth 10000 in
theorem open_rep {n : Nat} {cs : List Value} {x : DataW H × List MemPlace} (h : DataW.trod enc Try.prog W 0 (fun _ => true) held n 27 cs = some x) :
    ∃ (a b : Int) (v : Value) (l : List Pst) (m x0 x1 x2 x3 x4 x5 : Int), cs = [.int .i64 a, .int .i64 b, v, .int .i64 m, .int .i64 x0, .int .i64 x1, .int .i64 x2, .int .i64 x3, .int .i64 x4, .int .i64 x5] ∧ PS W v l := by
  obtain ⟨xs, m, _, hx, hl, hxl, hf⟩ := DataW.trod_struct Try.underlying27 h
  rw [repCells] at hl
  match cs, hl with
  | [c0, c1, c2, c3, c4, c5, c6, c7, c8, c9], _ =>
    have g : ∀ i, i < 4 → ∃ y, xs[i]? = some y := fun i hi => ⟨_, List.getElem?_eq_getElem (by simp at hxl; omega)⟩
    obtain ⟨y0, e0⟩ := g 0 (by omega)
    obtain ⟨y1, e1⟩ := g 1 (by omega)
    obtain ⟨y2, e2⟩ := g 2 (by omega)
    obtain ⟨y3, e3⟩ := g 3 (by omega)
    obtain ⟨z0, f0, -, w0⟩ := DataW.trod_int (k := .i64) Try.underlying3 ((hf 0 _ rfl).trans e0)
    obtain ⟨z1, f1, -, w1⟩ := DataW.trod_int (k := .i64) Try.underlying3 ((hf 1 _ rfl).trans e1)
    obtain ⟨v, l, f2, hps⟩ := open_posts_cell ((hf 2 _ rfl).trans e2)
    obtain ⟨m, x0, x1, x2, x3, x4, x5, f3⟩ := open_totals ((hf 3 _ rfl).trans e3)
    have c1i : Try.prog.cellsOf 3 = 1 := by kernel_rfl
    have c1s : Try.prog.cellsOf 22 = 1 := by kernel_rfl
    simp [c1i, c1s, totCells] at f0 f1 f2 f3
    obtain ⟨rfl, rfl, rfl, rfl, rfl, rfl, rfl⟩ := f3
    subst f0 f1 f2
    exact ⟨z0, z1, _, l, _, _, _, _, _, _, _, rfl, hps⟩

set_option maxRecDepth 100000 in
theorem open_report {r : Reach} {b0 : Nat} {v : Value} {d : DataW H} {ps : List MemPlace} (hv : Value.okWide Try.prog W r b0 27 v)
    (h : DataW.Trod enc Try.prog W 0 (fun _ => true) held 27 v d ps) : ∃ (a b : Int) (p : Option Addr) (n cap : Nat) (l : List Pst) (m x0 x1 x2 x3 x4 x5 : Int), v = .agg #[.int .i64 a, .int .i64 b, .slice p n cap, .int .i64 m, .int .i64 x0, .int .i64 x1, .int .i64 x2, .int .i64 x3, .int .i64 x4, .int .i64 x5] ∧ PS W (.slice p n cap) l := by
  obtain ⟨cs, rfl, hsz⟩ := okWide_struct Try.underlying27 hv
  obtain ⟨fuel, hf⟩ := h
  obtain ⟨a, b, v, l, m, x0, x1, x2, x3, x4, x5, hc, hps⟩ := open_rep hf
  obtain ⟨p, cap, rfl, h2, h3⟩ := hps
  refine ⟨a, b, p, l.length, cap, l, m, x0, x1, x2, x3, x4, x5, ?_, p, cap, rfl, h2, h3⟩
  obtain ⟨z⟩ := cs
  have hl : z = _ := hc
  rw [hl]
end
end Go.Proofs.Ytolfekbhlfjniaa

set_option linter.unusedVariables false
set_option linter.unusedSimpArgs false
namespace Go.Proofs.Ytolfekbhlfjniaa
open Go.RowKit

namespace Rep
def kA : Pst := ⟨2, 1230000000095, 1, 3, 0, 5, -5, 0, 0, 0⟩
def kB : Pst := ⟨3, 1230000000014, 2, 3, 0, 5, -5, 0, 0, 0⟩
def kC : Pst := ⟨1, 1230000000014, 1, 3, 0, 5, -5, 0, 0, 0⟩
theorem k_wf : WF [kA, kB, kC] := by
  intro z hz
  simp only [List.mem_cons, List.not_mem_nil, or_false] at hz
  rcases hz with rfl | rfl | rfl <;> exact ⟨by decide, by decide, by decide, by decide, by decide, by decide, by decide, by decide, by decide, by decide⟩
theorem k_wf2 : WF [kB, kA] := fun z hz => k_wf z (by simp only [List.mem_cons, List.not_mem_nil, or_false] at hz ⊢; rcases hz with rfl | rfl <;> simp)
theorem k_fine : FineP [kA, kB, kC] := by
  rw [fine_pairwise]
  refine ⟨?_, by simp [alike, kA, kB, kC]⟩
  intro z hz
  simp only [List.mem_cons, List.not_mem_nil, or_false] at hz
  rcases hz with rfl | rfl | rfl <;> decide
theorem k_filter : [kA, kB, kC].filter (within 2 3) = [kA, kB] := by simp [within, kA, kB, kC]
theorem k_mix : Srt.Mix keyP ([kA, kB, kC].filter (within 2 3)) [kB, kA] := by
  rw [k_filter]
  exact Srt.Mix.swap (x := [kA]) (y := [kB]) (by simp [keyP, kA, kB])
theorem k_up : Srt.Up keyP [kB, kA] := by
  unfold Srt.Up
  simp [keyP, kA, kB]
theorem k_sums : Post.sums [kB, kA] = ⟨0, 2, [0, 10, -10, 0, 0, 0]⟩ := by rfl
end Rep

set_option maxHeartbeats 1000000 in
theorem fly_any (d s q t : Int) (ht : Num.mkN 123 s = t) (w : World) : Calls Try.prog 25 #[.int .i64 d, .int .i64 s, .int .i64 q] w fun e w' => e = .returned (.agg #[.int .i64 d, .int .u64 t, .int .i64 q, .int .i64 3, .int .i64 0, .int .i64 5, .int .i64 (-5), .int .i64 0, .int .i64 0, .int .i64 0]) ∧ Below w.heap.size w w' := by
  have HT := Lib.hid ht
  go_enter Try.func25, Try.ntmps25
  go_wp2_with fail
  refine (rMake_any _ _ _).mono ?_
  rintro e w1 ⟨rfl, hb1⟩
  rw [HT.out]
  have hrow := (hb1.block w.heap.size (by simp)).trans (new_row w (.cells #[.int .i64 0, .int .u64 0, .int .i64 0, .int .i64 0, .int .i64 0, .int .i64 0, .int .i64 0, .int .i64 0, .int .i64 0, .int .i64 0] 38 (0, 0)) _ rfl)
  have HB1 := Lib.hid (((Below.refl w.heap.size w).alloc (Nat.le_refl _) _).trans (hb1.mono (by simp)))
  have hz := block_lt hrow
  have HR := Lib.hid hrow
  have hc := fun j => cell_of_row w1 w.heap.size j _ _ _ hrow
  have hf := fun j => frozen_of_row w1 w.heap.size j _ _ hrow
  clear hb1 hrow ht
  go_wp2
  have hrow := ten_row HR.out (.int .i64 d) (.int .u64 t) (.int .i64 q) (.int .i64 3) (.int .i64 0) (.int .i64 5) (.int .i64 (-5)) (.int .i64 0) (.int .i64 0) (.int .i64 0)
  refine bodyPost_ret (v := .agg #[.int .i64 d, .int .u64 t, .int .i64 q, .int .i64 3, .int .i64 0, .int .i64 5, .int .i64 (-5), .int .i64 0, .int .i64 0, .int .i64 0]) (by simp [results, Try.results25, go_sem, fun i => cell_of_row _ _ i _ _ _ hrow]) rfl ⟨rfl, ?_⟩
  exact ten_below HB1.out (Nat.le_refl _) _ _ _ _ _ _ _ _ _ _

theorem eqSelf (x : Pst) (w : World) : (binOp .eql 38 (.agg x.arr) (.agg x.arr)).run Try.prog w = .ok (.bool true) w := by
  have hS : Try.prog.underlying 38 = some (.struct (Try.prog.fieldsOf 38)) := by kernel_rfl
  have hp : Try.prog.stoodInHeld 38 = false := by kernel_rfl
  unfold Pst.arr
  rw [run_eql_struct, show (10000 : Nat) = 9999 + 1 from rfl, run_equalIn_agg w 9999 38 _ _ hS hp]
  simp only [Program.fieldsOf, Try.underlying38]
  go_simp

set_option maxRecDepth 4000 in
set_option maxHeartbeats 1000000 in
theorem known17_any (w : World) : Calls Try.prog 8 #[] w fun e w' => e = .returned (.bool true) ∧ Below w.heap.size w w' := by
  have HFA : Hid (∀ W, Calls Try.prog 25 #[.int .i64 2, .int .i64 9, .int .i64 1] W _) := Lib.hid (fun W => fly_any 2 9 1 1230000000095 (by decide) W)
  have HFB : Hid (∀ W, Calls Try.prog 25 #[.int .i64 3, .int .i64 1, .int .i64 2] W _) := Lib.hid (fun W => fly_any 3 1 2 1230000000014 (by decide) W)
  have HFC : Hid (∀ W, Calls Try.prog 25 #[.int .i64 1, .int .i64 1, .int .i64 1] W _) := Lib.hid (fun W => fly_any 1 1 1 1230000000014 (by decide) W)
  have HMK : Hid (∀ p W, PS W (.slice p 3 3) [Rep.kA, Rep.kB, Rep.kC] → _) := Lib.hid (fun p W h => make_fit 2 3 [Rep.kA, Rep.kB, Rep.kC] p 3 3 (by decide) rfl Rep.k_fine [Rep.kB, Rep.kA] Rep.k_mix Rep.k_up 0 2 0 10 (-10) 0 0 0 Rep.k_sums W h)
  have hEA : ∀ W, (binOp .eql 38 (.agg #[.int .i64 2, .int .u64 1230000000095, .int .i64 1, .int .i64 3, .int .i64 0, .int .i64 5, .int .i64 (-5), .int .i64 0, .int .i64 0, .int .i64 0]) (.agg #[.int .i64 2, .int .u64 1230000000095, .int .i64 1, .int .i64 3, .int .i64 0, .int .i64 5, .int .i64 (-5), .int .i64 0, .int .i64 0, .int .i64 0])).run Try.prog W = .ok (.bool true) W := fun W => eqSelf Rep.kA W
  have hEB : ∀ W, (binOp .eql 38 (.agg #[.int .i64 3, .int .u64 1230000000014, .int .i64 2, .int .i64 3, .int .i64 0, .int .i64 5, .int .i64 (-5), .int .i64 0, .int .i64 0, .int .i64 0]) (.agg #[.int .i64 3, .int .u64 1230000000014, .int .i64 2, .int .i64 3, .int .i64 0, .int .i64 5, .int .i64 (-5), .int .i64 0, .int .i64 0, .int .i64 0])).run Try.prog W = .ok (.bool true) W := fun W => eqSelf Rep.kB W
  have hG := guardPst'
  go_enter Try.func8, Try.ntmps8
  go_wp2_with fail
  refine (HFA.out _).mono ?_
  rintro e w1 ⟨rfl, hb1⟩
  go_wp2_with fail
  refine (HFB.out _).mono ?_
  rintro e w2 ⟨rfl, hb2⟩
  replace hb1 := below_call hb1 hb2
  go_wp2_with fail
  refine (HFC.out _).mono ?_
  rintro e w3 ⟨rfl, hb3⟩
  replace hb1 := below_call hb1 hb3
  have HB3 := Lib.hid hb1
  clear hb1 hb2 hb3
  go_wp2_with fail
  have hb4 := balloc HB3.out (.cells #[.int .i64 2, .int .u64 1230000000095, .int .i64 1, .int .i64 3, .int .i64 0, .int .i64 5, .int .i64 (-5), .int .i64 0, .int .i64 0, .int .i64 0, .int .i64 3, .int .u64 1230000000014, .int .i64 2, .int .i64 3, .int .i64 0, .int .i64 5, .int .i64 (-5), .int .i64 0, .int .i64 0, .int .i64 0, .int .i64 1, .int .u64 1230000000014, .int .i64 1, .int .i64 3, .int .i64 0, .int .i64 5, .int .i64 (-5), .int .i64 0, .int .i64 0, .int .i64 0] 38 (0, 0))
  have hrow := new_row w3 (.cells #[.int .i64 2, .int .u64 1230000000095, .int .i64 1, .int .i64 3, .int .i64 0, .int .i64 5, .int .i64 (-5), .int .i64 0, .int .i64 0, .int .i64 0, .int .i64 3, .int .u64 1230000000014, .int .i64 2, .int .i64 3, .int .i64 0, .int .i64 5, .int .i64 (-5), .int .i64 0, .int .i64 0, .int .i64 0, .int .i64 1, .int .u64 1230000000014, .int .i64 1, .int .i64 3, .int .i64 0, .int .i64 5, .int .i64 (-5), .int .i64 0, .int .i64 0, .int .i64 0] 38 (0, 0)) _ rfl
  have hps := ps_of_ls (RowL.slice (cap := 3) (RowL.of_block hrow Pst.cells_length (by decide) rfl) Pst.cells_length (by decide) (by decide) (by decide)) Rep.k_wf
  refine (HMK.out _ _ hps).mono ?_
  rintro e w5 ⟨v, hmine, hb5, he⟩
  obtain ⟨_, rfl⟩ := he.resolve_right (fun h => h.1 trivial)
  clear hb4 hps hrow
  have HB4 : Hid (Below w.heap.size w w5) := Lib.hid ((balloc HB3.out (.cells #[.int .i64 2, .int .u64 1230000000095, .int .i64 1, .int .i64 3, .int .i64 0, .int .i64 5, .int .i64 (-5), .int .i64 0, .int .i64 0, .int .i64 0, .int .i64 3, .int .u64 1230000000014, .int .i64 2, .int .i64 3, .int .i64 0, .int .i64 5, .int .i64 (-5), .int .i64 0, .int .i64 0, .int .i64 0, .int .i64 1, .int .u64 1230000000014, .int .i64 1, .int .i64 3, .int .i64 0, .int .i64 5, .int .i64 (-5), .int .i64 0, .int .i64 0, .int .i64 0] 38 (0, 0))).trans (hb5.mono (by have := HB3.out.size; simp <;> omega)))
  have hps := ps_of_ls (hmine.ls Pst.cells_length (by decide)) Rep.k_wf2
  rcases hmine with ⟨_, hnil⟩ | ⟨g, cg, rfl, hg, hlt, hc4, hx4, hrw⟩
  · cases hnil
  obtain ⟨bB, oB, eB, hblB, hatB⟩ := ps_at (hps.below ((Below.refl w5.heap.size w5).alloc (Nat.le_refl _) (.cells #[.int .i64 2, .int .i64 3, (.slice (some ⟨g, 0, none⟩) 2 cg), .int .i64 2, .int .i64 0, .int .i64 10, .int .i64 (-10), .int .i64 0, .int .i64 0, .int .i64 0] 27 (0, 0)))) (k := 0) rfl
  obtain ⟨bA, oA, eA, hblA, hatA⟩ := ps_at (hps.below ((Below.refl w5.heap.size w5).alloc (Nat.le_refl _) (.cells #[.int .i64 2, .int .i64 3, (.slice (some ⟨g, 0, none⟩) 2 cg), .int .i64 2, .int .i64 0, .int .i64 10, .int .i64 (-10), .int .i64 0, .int .i64 0, .int .i64 0] 27 (0, 0)))) (k := 1) rfl
  injection eB with eB; injection eB with eB1 eB2 _
  injection eA with eA; injection eA with eA1 eA2 _
  subst eB1 eB2 eA1 eA2
  have HB6 := Lib.hid (balloc HB4.out (.cells #[.int .i64 2, .int .i64 3, (.slice (some ⟨g, 0, none⟩) 2 cg), .int .i64 2, .int .i64 0, .int .i64 10, .int .i64 (-10), .int .i64 0, .int .i64 0, .int .i64 0] 27 (0, 0)))
  have hr6 := new_row w5 (.cells #[.int .i64 2, .int .i64 3, (.slice (some ⟨g, 0, none⟩) 2 cg), .int .i64 2, .int .i64 0, .int .i64 10, .int .i64 (-10), .int .i64 0, .int .i64 0, .int .i64 0] 27 (0, 0)) _ rfl
  have hr2 : (w5.alloc (.cells #[.int .i64 2, .int .i64 3, (.slice (some ⟨g, 0, none⟩) 2 cg), .int .i64 2, .int .i64 0, .int .i64 10, .int .i64 (-10), .int .i64 0, .int .i64 0, .int .i64 0] 27 (0, 0))).cell? ⟨w5.heap.size, 2, none⟩ = some _ := cell_of_row _ w5.heap.size 2 _ _ _ hr6
  have hr6 : (w5.alloc (.cells #[.int .i64 2, .int .i64 3, (.slice (some ⟨g, 0, none⟩) 2 cg), .int .i64 2, .int .i64 0, .int .i64 10, .int .i64 (-10), .int .i64 0, .int .i64 0, .int .i64 0] 27 (0, 0))).cell? ⟨w5.heap.size, 6, none⟩ = some _ := cell_of_row _ w5.heap.size 6 _ _ _ hr6
  clear hb5 hps hrw hlt hg
  have hlt6 : w5.heap.size < (w5.alloc (.cells #[.int .i64 2, .int .i64 3, (.slice (some ⟨g, 0, none⟩) 2 cg), .int .i64 2, .int .i64 0, .int .i64 10, .int .i64 (-10), .int .i64 0, .int .i64 0, .int .i64 0] 27 (0, 0))).heap.size := by simp
  go_upto_region 2 with fail
  generalize w5.alloc (.cells #[.int .i64 2, .int .i64 3, (.slice (some ⟨g, 0, none⟩) 2 cg), .int .i64 2, .int .i64 0, .int .i64 10, .int .i64 (-10), .int .i64 0, .int .i64 0, .int .i64 0] 27 (0, 0)) = w6 at *
  unfold PAt Rep.kA at hatA
  unfold PAt Rep.kB at hatB
  obtain ⟨a0, a1, a2, a3, a4, a5, a6, a7, a8, a9⟩ := hatA
  obtain ⟨b0, b1, b2, b3, b4, b5, b6, b7, b8, b9⟩ := hatB
  simp only [Nat.zero_mul, Nat.one_mul, Nat.zero_add, Nat.add_zero, Nat.reduceAdd, Nat.reduceMul] at a0 a1 a2 a3 a4 a5 a6 a7 a8 a9 b0 b1 b2 b3 b4 b5 b6 b7 b8 b9
  have hL := @Later.cell
  refine wp_region_later (by kernel_rfl) (by kernel_rfl) ?_
  repeat (go_big_quiet_step (first | (go_at_call 25; with_reducible exact later_call (HFA.out _)) | (go_at_call 25; with_reducible exact later_call (HFB.out _))))
  refine wpQuiet_nil ?_
  rintro w7 ⟨u, rfl⟩
  go_wp2
  go_ret
  exact ⟨rfl, HB6.out.trans (u.prop.mono HB6.out.size)⟩
end Go.Proofs.Ytolfekbhlfjniaa

set_option linter.unusedVariables false
set_option linter.unusedSimpArgs false
namespace Go.Proofs.Ytolfekbhlfjniaa
open Go.RowKit
attribute [local go_sem ↓] post_execLoad post_execStore
attribute [local go_sem] post_load post_store loL_drew okL_drew there_sc World.there_drew

set_option maxRecDepth 4000 in
set_option maxRecDepth 4000 in
set_option maxHeartbeats 400000 in
theorem pEqualL_any (l m : List Pst) (bv : Bool) (hbv : bv = true ↔ l = m) (p p' : Option Addr) (n n' cap cap' : Nat) (w : World) (hs : LS Pst.cells 10 w (.slice p n cap) l) (hs' : LS Pst.cells 10 w (.slice p' n' cap') m) :
    Calls Try.prog 53 #[.slice p n cap, .slice p' n' cap'] w fun e w' => e = .returned (.bool bv) ∧ Below w.heap.size w w' := by
  have HL := Lib.hid hs.length
  have HL' := Lib.hid hs'.length
  have HS := Lib.hid hs; have HS' := Lib.hid hs'; have HBV := Lib.hid hbv
  have hmax : n ≤ 9223372036854775807 := by have h1 := HL.out.2.1; have h2 := HL.out.2.2; simp only [maxLen] at h2; omega
  have hmax' : n' ≤ 9223372036854775807 := by have h1 := HL'.out.2.1; have h2 := HL'.out.2.2; simp only [maxLen] at h2; omega
  clear hs hs' hbv
  by_cases hnn : n = n'
  · subst hnn
    go_enter Try.func53, Try.ntmps53
    go_wp2
    go_loopw [13] (fun i wr => ∃ k : Nat, k ≤ n ∧ i = .int .i64 k ∧ Below w.heap.size w wr ∧ l.take k = m.take k) (fun i _ => n - (intOf i).toNat)
    case atStart => exact ⟨0, Nat.zero_le _, rfl, Below.refl _ _, rfl⟩
    case round =>
      obtain ⟨k, hk, rfl, hbw, heq⟩ := hrel
      have HBW := Lib.hid hbw; have HEQ := Lib.hid heq
      clear heq
      by_cases hlt : k < n
      · obtain ⟨x, hx⟩ : ∃ x, l[k]? = some x := ⟨_, List.getElem?_eq_getElem (by have := HL.out.1; omega)⟩
        obtain ⟨y, hy⟩ : ∃ y, m[k]? = some y := ⟨_, List.getElem?_eq_getElem (by have := HL'.out.1; omega)⟩
        have HX := Lib.hid hx; have HY := Lib.hid hy
        obtain ⟨b, o, rfl, hb, hr⟩ := (HS.out.below hbw).at hx
        obtain ⟨b', o', rfl, hb', hr'⟩ := (HS'.out.below hbw).at hy
        obtain ⟨f1, f2⟩ := loL_of hr (Pst.cells_length x)
        obtain ⟨f3, f4⟩ := loL_of hr' (Pst.cells_length y)
        obtain ⟨q, hq⟩ : ∃ q, Rep.sameP x y = q := ⟨_, rfl⟩
        have hE : ∀ W, (Op.equalIn 10000 38 (.agg x.cells.toArray) (.agg y.cells.toArray)).run Try.prog W = .ok q W := fun W => by rw [← hq]; exact eqInG x y W
        have HQ := Lib.hid (hq ▸ Rep.sameP_iff x y : (q = true ↔ x = y))
        have hG := guardPn
        generalize x.cells = cx at *
        generalize y.cells = cy at *
        clear hx hy hr hr' hbw hq
        cases q
        · go_wp2_with fail
          go_region
          go_wp2
          go_ret
          refine ⟨ret_bool ?_, HBW.out.drew⟩
          cases hb : bv
          · rfl
          · have h1 := HBV.out.1 hb
            have h2 := HX.out
            rw [h1, HY.out] at h2
            injection h2 with h2
            exact absurd (HQ.out.2 h2.symm) (by simp)
        · go_wp2_with fail
          go_region
          go_wp2
          go_roundw
          case rel => exact ⟨k + 1, by omega, by go_num, HBW.out.drew, by rw [List.take_add_one, List.take_add_one, HX.out, HY.out, HEQ.out, HQ.out.1 (by trivial)]⟩
          case measure => simp [intOf]; omega
      · obtain rfl : k = n := by omega
        have HF : Hid (bv = true) := Lib.hid (HBV.out.2 (by
          have := HEQ.out
          rwa [List.take_of_length_le (by have := HL.out.1; omega), List.take_of_length_le (by have := HL'.out.1; omega)] at this))
        go_wp2
        go_ret
        exact ⟨ret_bool HF.out.symm, HBW.out⟩
  · have HF : Hid (bv = false) := Lib.hid (by
      cases hb : bv
      · rfl
      · exact absurd (by rw [HL.out.1, HL'.out.1, HBV.out.1 hb]) hnn)
    have hnni : ¬ (n : Int) = (n' : Int) := by omega
    go_enter Try.func53, Try.ntmps53
    go_wp2
    go_ret
    exact ⟨ret_bool HF.out.symm, Below.refl _ _⟩

set_option maxRecDepth 4000 in
set_option maxHeartbeats 1000000 in
theorem pSameR_any (f t f' t' m x0 x1 x2 x3 x4 x5 m' y0 y1 y2 y3 y4 y5 : Int) (l l' : List Pst) (p p' : Option Addr) (n n' cap cap' : Nat) (bv : Bool) (hbv : bv = true ↔ (f = f' ∧ t = t' ∧ (m = m' ∧ x0 = y0 ∧ x1 = y1 ∧ x2 = y2 ∧ x3 = y3 ∧ x4 = y4 ∧ x5 = y5) ∧ l = l')) (w : World) (hs : LS Pst.cells 10 w (.slice p n cap) l) (hs' : LS Pst.cells 10 w (.slice p' n' cap') l') :
    Calls Try.prog 20 #[.agg #[.int .i64 f, .int .i64 t, .slice p n cap, .int .i64 m, .int .i64 x0, .int .i64 x1, .int .i64 x2, .int .i64 x3, .int .i64 x4, .int .i64 x5], .agg #[.int .i64 f', .int .i64 t', .slice p' n' cap', .int .i64 m', .int .i64 y0, .int .i64 y1, .int .i64 y2, .int .i64 y3, .int .i64 y4, .int .i64 y5]] w fun e w' => e = .returned (.bool bv) ∧ Below w.heap.size w w' := by
  have hb0 := (((Below.refl w.heap.size w).alloc (Nat.le_refl _) (.cells #[.int .i64 f, .int .i64 t, .slice p n cap, .int .i64 m, .int .i64 x0, .int .i64 x1, .int .i64 x2, .int .i64 x3, .int .i64 x4, .int .i64 x5] 27 (0, 0))).alloc (by simp) (.cells #[.int .i64 f', .int .i64 t', .slice p' n' cap', .int .i64 m', .int .i64 y0, .int .i64 y1, .int .i64 y2, .int .i64 y3, .int .i64 y4, .int .i64 y5] 27 (0, 0)))
  have HB0 := Lib.hid hb0
  have HS := Lib.hid (hs.below hb0); have HS' := Lib.hid (hs'.below hb0)
  have HBV := Lib.hid hbv
  clear hs hs' hb0 hbv
  by_cases hf : f = f'
  · subst hf
    by_cases ht : t = t'
    · subst ht
      obtain ⟨q, hq⟩ : ∃ q, Rep.sameT m x0 x1 x2 x3 x4 x5 m' y0 y1 y2 y3 y4 y5 = q := ⟨_, rfl⟩
      have hE1 : ∀ W, (Op.equalIn 10000 25 (.agg #[.int .i64 m, .int .i64 x0, .int .i64 x1, .int .i64 x2, .int .i64 x3, .int .i64 x4, .int .i64 x5]) (.agg #[.int .i64 m', .int .i64 y0, .int .i64 y1, .int .i64 y2, .int .i64 y3, .int .i64 y4, .int .i64 y5])).run Try.prog W = .ok q W := fun W => by rw [← hq]; exact eqInTG m x0 x1 x2 x3 x4 x5 m' y0 y1 y2 y3 y4 y5 W
      have hE2 : ∀ W, (binOp .eql 25 (.agg #[.int .i64 m, .int .i64 x0, .int .i64 x1, .int .i64 x2, .int .i64 x3, .int .i64 x4, .int .i64 x5]) (.agg #[.int .i64 m', .int .i64 y0, .int .i64 y1, .int .i64 y2, .int .i64 y3, .int .i64 y4, .int .i64 y5])).run Try.prog W = .ok (.bool q) W := fun W => by rw [← hq]; exact eqTG m x0 x1 x2 x3 x4 x5 m' y0 y1 y2 y3 y4 y5 W
      have hG := guardTe
      have HQ := Lib.hid (hq ▸ Rep.sameT_iff m x0 x1 x2 x3 x4 x5 m' y0 y1 y2 y3 y4 y5 : (q = true ↔ (m = m' ∧ x0 = y0 ∧ x1 = y1 ∧ x2 = y2 ∧ x3 = y3 ∧ x4 = y4 ∧ x5 = y5)))
      clear hq
      cases q
      · have HF : Hid (bv = false) := Lib.hid (by
          cases hb : bv
          · rfl
          · exact absurd (HQ.out.2 (HBV.out.1 hb).2.2.1) (by simp))
        go_enter Try.func20, Try.ntmps20
        go_wp2
        go_ret
        exact ⟨ret_bool HF.out.symm, HB0.out⟩
      · have HF : Hid (bv = true ↔ l = l') := Lib.hid ⟨fun h => (HBV.out.1 h).2.2.2, fun h => HBV.out.2 ⟨rfl, rfl, HQ.out.1 (by trivial), h⟩⟩
        go_enter Try.func20, Try.ntmps20
        go_wp2_with fail
        refine (pEqualL_any l l' bv HF.out p p' n n' cap cap' _ HS.out HS'.out).mono ?_
        rintro e w1 ⟨rfl, hb1⟩
        have HB1 := Lib.hid (HB0.out.trans (hb1.mono HB0.out.size))
        clear hb1
        go_wp2
        go_ret
        exact ⟨rfl, HB1.out⟩
    · have HF : Hid (bv = false) := Lib.hid (by
        cases hb : bv
        · rfl
        · exact absurd (HBV.out.1 hb).2.1 ht)
      go_enter Try.func20, Try.ntmps20
      go_wp2
      go_ret
      exact ⟨ret_bool HF.out.symm, HB0.out⟩
  · have HF : Hid (bv = false) := Lib.hid (by
      cases hb : bv
      · rfl
      · exact absurd (HBV.out.1 hb).1 hf)
    go_enter Try.func20, Try.ntmps20
    go_wp2
    go_ret
    exact ⟨ret_bool HF.out.symm, HB0.out⟩
end Go.Proofs.Ytolfekbhlfjniaa
