/- Contract of posting.Of. Contracts of the posting reference: Key, Bytes, Of; and of posting.Of. Contracts of the reference's cursor (couponref13): Take, Cut. An argument that is a slice of bytes, read as a list. -/
import Derived.Test.YtolfekbhlfjniaaMRead
import Derived.Deep.RegionHeld3
import Derived.Test.YtolfekbhlfjniaaRec
import Derived.Test.YtolfekbhlfjniaaMem
set_option linter.unusedVariables false
set_option linter.unusedSimpArgs false
namespace Go.Proofs.Ytolfekbhlfjniaa
open Go.RowKit

theorem IsR.keptU {T : List TypeId} (h1 : 107 ∉ T) (h2 : 5 ∉ T) {w w' : World} {base br : Nat} {st : Option (List UInt8)} (h : IsR w base br st) (hk : Kept T w w') : IsR w' base br st := by
  obtain ⟨hb, g, cap, a, bad, L, r1, r2, h3⟩ := h
  refine ⟨hb, g, cap, a, bad, L, hk.block _ _ _ _ r1 h1, ?_, h3⟩
  obtain ⟨hl, hor⟩ := r2
  refine ⟨hl, ?_⟩
  rcases hor with h | ⟨g', cap', cur, e, hg, hh, h4⟩
  · exact .inl h
  · exact .inr ⟨g', cap', cur, e, hg, hk.block _ _ _ _ hh h2, h4⟩
theorem p_store {wB W : World} {base bx br : Nat} {cs : Array Value} {st : Option (List UInt8)} (h : IsR W base br st) (hrow : W.heap[bx]? = some (.cells cs 38 (0, 0))) (hb : base ≤ bx) (hB : Below base wB W) (i : Nat) (v : Value) :
    IsR (W.setCell ⟨bx, i, none⟩ v) base br st ∧ (W.setCell ⟨bx, i, none⟩ v).heap[bx]? = some (.cells (cs.setIfInBounds i v) 38 (0, 0)) ∧ Below base wB (W.setCell ⟨bx, i, none⟩ v) :=
  ⟨h.keptU (T := [38]) (by decide) (by decide) ((Kept.refl _ _).setCell hrow (by simp) _), heap_setCell_same _ _ _ _ _ _ hrow, hB.setCell hb _⟩

def rowJ (vv : Nat → Int → Int) (j : Nat) : Array Value := #[.int .i64 (vv 10 4), .int .u64 (vv 0 8), .int .i64 (vv 8 2), .int .i64 (vv 14 1), .int .i64 (if 0 < j then wrap64 (vv 15 8) else 0), .int .i64 (if 1 < j then wrap64 (vv 23 8) else 0), .int .i64 (if 2 < j then wrap64 (vv 31 8) else 0), .int .i64 (if 3 < j then wrap64 (vv 39 8) else 0), .int .i64 (if 4 < j then wrap64 (vv 47 8) else 0), .int .i64 (if 5 < j then wrap64 (vv 55 8) else 0)]

set_option maxRecDepth 4000 in
set_option maxHeartbeats 4000000 in
theorem pOf_any (v : Value) (b : List UInt8) (hlen : b.length ≤ 1000) (w : World) (hv : BS w v b) :
    Calls Try.prog 39 #[v] w fun e w' => e = .returned (.tuple #[.agg (if b.length = 63 ∧ (pOf b).may = true then pOf b else zeroP).cells.toArray, .int .i64 (if b.length = 63 ∧ (pOf b).may = true then 0 else 4)]) ∧ Below w.heap.size w w' := by
  obtain ⟨vv, hvv⟩ : ∃ vv : Nat → Int → Int, vv = fun o k => ((vAt b o k.toNat : Nat) : Int) := ⟨_, rfl⟩
  obtain ⟨ST, hST⟩ : ∃ ST : Nat → Option (List UInt8), ST = stAt b := ⟨_, rfl⟩
  have HNU : Hid (∀ (W : World) (base br o : Nat) (k : Int), (k = 1 ∨ k = 2 ∨ k = 4 ∨ k = 8) → IsR W base br (ST o) → Calls Try.prog 37 #[.pointer (some ⟨br, 0, none⟩), .int .i64 k] W fun e w' => e = .returned (.int .u64 (vv o k)) ∧ RStep W w' base br (ST (o + k.toNat))) := Lib.hid (fun W base br o k hk h => by
    obtain ⟨z, rfl⟩ := Int.eq_ofNat_of_zero_le (show 0 ≤ k by omega)
    rw [hST] at h ⊢
    have := rnumber_any base br _ (z : Int) W h
    rw [stAt_num b o z (by omega)] at this
    rw [hvv]
    exact this)
  have HIN : Hid (∀ (W : World) (base br o : Nat), IsR W base br (ST o) → Calls Try.prog 71 #[.pointer (some ⟨br, 0, none⟩)] W fun e w' => e = .returned (.int .i64 (wrap64 (vv o 8))) ∧ RStep W w' base br (ST (o + 8))) := Lib.hid (fun W base br o h => by
    rw [hST] at h ⊢
    have := rint_any base br _ W h
    rw [show (8 : Int) = ((8 : Nat) : Int) from rfl, stAt_num b o 8 (by omega)] at this
    rw [hvv]
    exact this)
  have hb0 : ∀ (o k : Nat), 0 ≤ vv o (k : Int) ∧ vv o (k : Int) < (256 ^ k : Nat) := fun o k => by
    rw [hvv]
    have := vAt_lt b o k
    exact ⟨by show (0 : Int) ≤ ((vAt b o k : Nat) : Int); omega, by show ((vAt b o k : Nat) : Int) < _; exact Int.ofNat_lt.2 this⟩
  have b1 : 0 ≤ vv 0 8 ∧ vv 0 8 < 18446744073709551616 := hb0 0 8
  have b2 : 0 ≤ vv 8 2 ∧ vv 8 2 < 65536 := hb0 8 2
  have b3 : 0 ≤ vv 10 4 ∧ vv 10 4 < 4294967296 := hb0 10 4
  have b4 : 0 ≤ vv 14 1 ∧ vv 14 1 < 256 := hb0 14 1
  have z2 : IntKind.i64.wrap (vv 8 2) = vv 8 2 := by rw [IntKind.wrap_i64]; omega
  have z3 : IntKind.i64.wrap (vv 10 4) = vv 10 4 := by rw [IntKind.wrap_i64]; omega
  have z4 : IntKind.i64.wrap (vv 14 1) = vv 14 1 := by rw [IntKind.wrap_i64]; omega
  have HP : Hid (pOf b = ⟨vv 10 4, vv 0 8, vv 8 2, vv 14 1, wrap64 (vv 15 8), wrap64 (vv 23 8), wrap64 (vv 31 8), wrap64 (vv 39 8), wrap64 (vv 47 8), wrap64 (vv 55 8)⟩) := Lib.hid (by rw [hvv]; rfl)
  have HEND : Hid (ST 63 = some [] ↔ b.length = 63) := Lib.hid (by rw [hST]; exact stAt_end b)
  have HS0 : Hid (some b = ST 0) := Lib.hid (by rw [hST, stAt_zero])
  have HRD := Lib.hid (fun W h => read_any v b (by omega) W h)
  rw [HS0.out] at HRD
  have HV := Lib.hid hv
  clear hb0 hvv hST
  obtain ⟨p, cap, rfl, g1, g2, -⟩ := hv
  generalize b.length = m at *
  obtain ⟨RA, hRA⟩ : ∃ RA, RA = (if m = 63 ∧ (pOf b).may = true then pOf b else zeroP).cells.toArray := ⟨_, rfl⟩
  obtain ⟨RC, hRC⟩ : ∃ RC : Int, RC = if m = 63 ∧ (pOf b).may = true then 0 else 4 := ⟨_, rfl⟩
  rw [← hRA, ← hRC]
  have HRA' := Lib.hid hRA
  have HRC' := Lib.hid hRC
  clear hRA hRC
  go_enter Try.func39, Try.ntmps39
  go_wp2_with fail
  have hrz0 : (w.alloc (.cells #[.int .i64 0, .int .u64 0, .int .i64 0, .int .i64 0, .int .i64 0, .int .i64 0, .int .i64 0, .int .i64 0, .int .i64 0, .int .i64 0] 38)).heap[w.heap.size]? = some (.cells #[.int .i64 0, .int .u64 0, .int .i64 0, .int .i64 0, .int .i64 0, .int .i64 0, .int .i64 0, .int .i64 0, .int .i64 0, .int .i64 0] 38 (0, 0)) := new_rowW _ _ _ rfl
  have HBZ := Lib.hid ((Below.refl w.heap.size w).alloc (Nat.le_refl _) (.cells #[.int .i64 0, .int .u64 0, .int .i64 0, .int .i64 0, .int .i64 0, .int .i64 0, .int .i64 0, .int .i64 0, .int .i64 0, .int .i64 0] 38))
  have HVZ := Lib.hid (HV.out.alloc (.cells #[.int .i64 0, .int .u64 0, .int .i64 0, .int .i64 0, .int .i64 0, .int .i64 0, .int .i64 0, .int .i64 0, .int .i64 0, .int .i64 0] 38))
  generalize w.alloc (.cells #[.int .i64 0, .int .u64 0, .int .i64 0, .int .i64 0, .int .i64 0, .int .i64 0, .int .i64 0, .int .i64 0, .int .i64 0, .int .i64 0] 38) = W0 at *
  have hlz : w.heap.size < W0.heap.size := block_lt hrz0
  refine (HRD.out _ HVZ.out).mono ?_
  rintro e w1 ⟨br, rfl, hr, hb1⟩
  have HI1 := Lib.hid hr
  have HB1 := Lib.hid hb1
  have HRZ := Lib.hid hrz0
  clear hr hb1 hrz0
  go_wp2_with fail
  have hbx := HB1.out.size
  have HIA := Lib.hid (HI1.out.below ((Below.refl w1.heap.size w1).alloc (Nat.le_refl _) (.cells #[.int .i64 0, .int .u64 0, .int .i64 0, .int .i64 0, .int .i64 0, .int .i64 0, .int .i64 0, .int .i64 0, .int .i64 0, .int .i64 0] 38)))
  have HBA := Lib.hid (HB1.out.alloc hbx (.cells #[.int .i64 0, .int .u64 0, .int .i64 0, .int .i64 0, .int .i64 0, .int .i64 0, .int .i64 0, .int .i64 0, .int .i64 0, .int .i64 0] 38))
  have HRA : Hid ((w1.alloc (.cells #[.int .i64 0, .int .u64 0, .int .i64 0, .int .i64 0, .int .i64 0, .int .i64 0, .int .i64 0, .int .i64 0, .int .i64 0, .int .i64 0] 38)).heap[w1.heap.size]? = some (.cells #[.int .i64 0, .int .u64 0, .int .i64 0, .int .i64 0, .int .i64 0, .int .i64 0, .int .i64 0, .int .i64 0, .int .i64 0, .int .i64 0] 38 (0, 0))) := Lib.hid (new_rowW _ _ _ rfl)
  generalize w1.alloc (.cells #[.int .i64 0, .int .u64 0, .int .i64 0, .int .i64 0, .int .i64 0, .int .i64 0, .int .i64 0, .int .i64 0, .int .i64 0, .int .i64 0] 38) = A at *
  generalize w1.heap.size = bx at *
  refine (HNU.out A W0.heap.size br 0 8 (by decide) HIA.out).mono ?_
  rintro e x2 ⟨rfl, hr⟩
  have HI2 : Hid (IsR x2 W0.heap.size br (ST 8)) := Lib.hid hr.1
  have HB2 := Lib.hid (HBA.out.trans hr.2.1)
  have HR2 := Lib.hid (hr.2.2.block _ _ _ _ HRA.out (by decide))
  clear hr
  go_wp2_with fail
  refine (HNU.out x2 W0.heap.size br 8 2 (by decide) HI2.out).mono ?_
  rintro e x3 ⟨rfl, hr⟩
  have HI3 : Hid (IsR x3 W0.heap.size br (ST 10)) := Lib.hid hr.1
  have HB3 := Lib.hid (HB2.out.trans hr.2.1)
  have HR3 := Lib.hid (hr.2.2.block _ _ _ _ HR2.out (by decide))
  clear hr
  have hc3 := fun j => cell_of_row x3 bx j _ _ _ HR3.out
  have hf3 := fun j => frozen_of_row x3 bx j _ _ HR3.out
  have hs0 := p_store HI3.out HR3.out hbx HB3.out 1 (.int .u64 (vv 0 8))
  have hs1 := p_store hs0.1 hs0.2.1 hbx hs0.2.2 2 (.int .i64 (vv 8 2))
  have HIC := Lib.hid hs1.1
  have HBC := Lib.hid hs1.2.2
  have HRC : Hid (((x3.setCell ⟨bx, 1, none⟩ (.int .u64 (vv 0 8))).setCell ⟨bx, 2, none⟩ (.int .i64 (vv 8 2))).heap[bx]? = some (.cells #[.int .i64 (0), .int .u64 (vv 0 8), .int .i64 (vv 8 2), .int .i64 (0), .int .i64 0, .int .i64 0, .int .i64 0, .int .i64 0, .int .i64 0, .int .i64 0] 38 (0, 0))) := Lib.hid hs1.2.1
  clear hs0 hs1
  go_wp2_with fail
  clear hc3 hf3
  generalize ((x3.setCell ⟨bx, 1, none⟩ (.int .u64 (vv 0 8))).setCell ⟨bx, 2, none⟩ (.int .i64 (vv 8 2))) = C at *
  refine (HNU.out C W0.heap.size br 10 4 (by decide) HIC.out).mono ?_
  rintro e x4 ⟨rfl, hr⟩
  have HI4 : Hid (IsR x4 W0.heap.size br (ST 14)) := Lib.hid hr.1
  have HB4 := Lib.hid (HBC.out.trans hr.2.1)
  have HR4 := Lib.hid (hr.2.2.block _ _ _ _ HRC.out (by decide))
  clear hr
  go_wp2_with fail
  refine (HNU.out x4 W0.heap.size br 14 1 (by decide) HI4.out).mono ?_
  rintro e x5 ⟨rfl, hr⟩
  have HI5 : Hid (IsR x5 W0.heap.size br (ST 15)) := Lib.hid hr.1
  have HB5 := Lib.hid (HB4.out.trans hr.2.1)
  have HR5 := Lib.hid (hr.2.2.block _ _ _ _ HR4.out (by decide))
  clear hr
  have hc5 := fun j => cell_of_row x5 bx j _ _ _ HR5.out
  have hf5 := fun j => frozen_of_row x5 bx j _ _ HR5.out
  have hs0 := p_store HI5.out HR5.out hbx HB5.out 0 (.int .i64 (vv 10 4))
  have hs1 := p_store hs0.1 hs0.2.1 hbx hs0.2.2 3 (.int .i64 (vv 14 1))
  have HID := Lib.hid hs1.1
  have HBD := Lib.hid hs1.2.2
  have HRD : Hid (((x5.setCell ⟨bx, 0, none⟩ (.int .i64 (vv 10 4))).setCell ⟨bx, 3, none⟩ (.int .i64 (vv 14 1))).heap[bx]? = some (.cells #[.int .i64 (vv 10 4), .int .u64 (vv 0 8), .int .i64 (vv 8 2), .int .i64 (vv 14 1), .int .i64 0, .int .i64 0, .int .i64 0, .int .i64 0, .int .i64 0, .int .i64 0] 38 (0, 0))) := Lib.hid hs1.2.1
  clear hs0 hs1
  go_wp2_with fail
  clear hc5 hf5
  have hDs : ((x5.setCell ⟨bx, 0, none⟩ (.int .i64 (vv 10 4))).setCell ⟨bx, 3, none⟩ (.int .i64 (vv 14 1))).heap.size = x5.heap.size := by simp
  generalize ((x5.setCell ⟨bx, 0, none⟩ (.int .i64 (vv 10 4))).setCell ⟨bx, 3, none⟩ (.int .i64 (vv 14 1))) = D at *
  go_loopw [33] (fun i wr => ∃ j : Nat, j ≤ 6 ∧ i = .int .i64 j ∧ IsR wr W0.heap.size br (ST (15 + 8 * j)) ∧ Below W0.heap.size W0 wr ∧ wr.heap[bx]? = some (.cells (rowJ vv j) 38 (0, 0)) ∧ ∃ t, t ≠ 107 ∧ x5.heap.size ≠ bx ∧ wr.heap[x5.heap.size]? = some (.cells #[.pointer (some ⟨bx, 4, none⟩), .pointer (some ⟨bx, 5, none⟩), .pointer (some ⟨bx, 6, none⟩), .pointer (some ⟨bx, 7, none⟩), .pointer (some ⟨bx, 8, none⟩), .pointer (some ⟨bx, 9, none⟩)] t (0, 0))) (fun i _ => 6 - (intOf i).toNat)
  case atStart => exact ⟨0, by omega, rfl, HID.out.below ((Below.refl D.heap.size D).alloc (Nat.le_refl _) _), HBD.out.alloc (by have := HBD.out.size; omega) _, row_allocW HRD.out _, _, by decide, by have := block_lt HRD.out; omega, new_rowW _ _ _ hDs.symm⟩
  case round =>
    obtain ⟨j, hj, rfl, hisr, hbw, hrow, t, ht, hne, hptr⟩ := hrel
    have HIJ := Lib.hid hisr
    have HBJ := Lib.hid hbw
    have HRJ := Lib.hid hrow
    have HPT := Lib.hid hptr
    have HT := Lib.hid ht
    have HNE := Lib.hid hne
    have hcp := fun i => cell_of_row wr x5.heap.size i _ _ _ hptr
    clear hisr hbw hrow hptr ht hne
    rcases (by omega : j = 0 ∨ j = 1 ∨ j = 2 ∨ j = 3 ∨ j = 4 ∨ j = 5 ∨ j = 6) with rfl | rfl | rfl | rfl | rfl | rfl | rfl
    · have HRQ : Hid (wr.heap[bx]? = some (.cells #[.int .i64 (vv 10 4), .int .u64 (vv 0 8), .int .i64 (vv 8 2), .int .i64 (vv 14 1), .int .i64 0, .int .i64 0, .int .i64 0, .int .i64 0, .int .i64 0, .int .i64 0] 38 (0, 0))) := Lib.hid HRJ.out
      have hnext : (15 + 8 * 0 : Nat) = 15 := rfl
      have HIQ : Hid (IsR wr W0.heap.size br (ST 15)) := Lib.hid HIJ.out
      clear HIJ HRJ
      go_wp2_with fail
      refine (HIN.out wr W0.heap.size br 15 HIQ.out).mono ?_
      rintro e y ⟨rfl, hr⟩
      have HIY : Hid (IsR y W0.heap.size br (ST 23)) := Lib.hid hr.1
      have HBY := Lib.hid (HBJ.out.trans hr.2.1)
      have HRY := Lib.hid (hr.2.2.block _ _ _ _ HRQ.out (by decide))
      have HPY := Lib.hid (hr.2.2.block _ _ _ _ HPT.out (by simp [RT]; exact HT.out))
      clear hr hcp
      have hc := fun j => cell_of_row y bx j _ _ _ HRY.out
      have hf := fun j => frozen_of_row y bx j _ _ HRY.out
      have hs := p_store HIY.out HRY.out hbx HBY.out 4 (.int .i64 (wrap64 (vv 15 8)))
      have HIS := Lib.hid hs.1
      have HBS := Lib.hid hs.2.2
      have HRS : Hid ((y.setCell ⟨bx, 4, none⟩ (.int .i64 (wrap64 (vv 15 8)))).heap[bx]? = some (.cells #[.int .i64 (vv 10 4), .int .u64 (vv 0 8), .int .i64 (vv 8 2), .int .i64 (vv 14 1), .int .i64 (wrap64 (vv 15 8)), .int .i64 0, .int .i64 0, .int .i64 0, .int .i64 0, .int .i64 0] 38 (0, 0))) := Lib.hid hs.2.1
      have HPS := Lib.hid ((heap_setCell_other y ⟨bx, 4, none⟩ x5.heap.size (.int .i64 (wrap64 (vv 15 8))) (by exact HNE.out)).trans HPY.out)
      clear hs
      go_wp2
      go_roundw
      case rel => exact ⟨1, by omega, by go_num, HIS.out, HBS.out, HRS.out, t, HT.out, HNE.out, HPS.out⟩
      case measure => simp [intOf]
    · have HRQ : Hid (wr.heap[bx]? = some (.cells #[.int .i64 (vv 10 4), .int .u64 (vv 0 8), .int .i64 (vv 8 2), .int .i64 (vv 14 1), .int .i64 (wrap64 (vv 15 8)), .int .i64 0, .int .i64 0, .int .i64 0, .int .i64 0, .int .i64 0] 38 (0, 0))) := Lib.hid HRJ.out
      have hnext : (15 + 8 * 1 : Nat) = 23 := rfl
      have HIQ : Hid (IsR wr W0.heap.size br (ST 23)) := Lib.hid HIJ.out
      clear HIJ HRJ
      go_wp2_with fail
      refine (HIN.out wr W0.heap.size br 23 HIQ.out).mono ?_
      rintro e y ⟨rfl, hr⟩
      have HIY : Hid (IsR y W0.heap.size br (ST 31)) := Lib.hid hr.1
      have HBY := Lib.hid (HBJ.out.trans hr.2.1)
      have HRY := Lib.hid (hr.2.2.block _ _ _ _ HRQ.out (by decide))
      have HPY := Lib.hid (hr.2.2.block _ _ _ _ HPT.out (by simp [RT]; exact HT.out))
      clear hr hcp
      have hc := fun j => cell_of_row y bx j _ _ _ HRY.out
      have hf := fun j => frozen_of_row y bx j _ _ HRY.out
      have hs := p_store HIY.out HRY.out hbx HBY.out 5 (.int .i64 (wrap64 (vv 23 8)))
      have HIS := Lib.hid hs.1
      have HBS := Lib.hid hs.2.2
      have HRS : Hid ((y.setCell ⟨bx, 5, none⟩ (.int .i64 (wrap64 (vv 23 8)))).heap[bx]? = some (.cells #[.int .i64 (vv 10 4), .int .u64 (vv 0 8), .int .i64 (vv 8 2), .int .i64 (vv 14 1), .int .i64 (wrap64 (vv 15 8)), .int .i64 (wrap64 (vv 23 8)), .int .i64 0, .int .i64 0, .int .i64 0, .int .i64 0] 38 (0, 0))) := Lib.hid hs.2.1
      have HPS := Lib.hid ((heap_setCell_other y ⟨bx, 5, none⟩ x5.heap.size (.int .i64 (wrap64 (vv 23 8))) (by exact HNE.out)).trans HPY.out)
      clear hs
      go_wp2
      go_roundw
      case rel => exact ⟨2, by omega, by go_num, HIS.out, HBS.out, HRS.out, t, HT.out, HNE.out, HPS.out⟩
      case measure => simp [intOf]
    · have HRQ : Hid (wr.heap[bx]? = some (.cells #[.int .i64 (vv 10 4), .int .u64 (vv 0 8), .int .i64 (vv 8 2), .int .i64 (vv 14 1), .int .i64 (wrap64 (vv 15 8)), .int .i64 (wrap64 (vv 23 8)), .int .i64 0, .int .i64 0, .int .i64 0, .int .i64 0] 38 (0, 0))) := Lib.hid HRJ.out
      have hnext : (15 + 8 * 2 : Nat) = 31 := rfl
      have HIQ : Hid (IsR wr W0.heap.size br (ST 31)) := Lib.hid HIJ.out
      clear HIJ HRJ
      go_wp2_with fail
      refine (HIN.out wr W0.heap.size br 31 HIQ.out).mono ?_
      rintro e y ⟨rfl, hr⟩
      have HIY : Hid (IsR y W0.heap.size br (ST 39)) := Lib.hid hr.1
      have HBY := Lib.hid (HBJ.out.trans hr.2.1)
      have HRY := Lib.hid (hr.2.2.block _ _ _ _ HRQ.out (by decide))
      have HPY := Lib.hid (hr.2.2.block _ _ _ _ HPT.out (by simp [RT]; exact HT.out))
      clear hr hcp
      have hc := fun j => cell_of_row y bx j _ _ _ HRY.out
      have hf := fun j => frozen_of_row y bx j _ _ HRY.out
      have hs := p_store HIY.out HRY.out hbx HBY.out 6 (.int .i64 (wrap64 (vv 31 8)))
      have HIS := Lib.hid hs.1
      have HBS := Lib.hid hs.2.2
      have HRS : Hid ((y.setCell ⟨bx, 6, none⟩ (.int .i64 (wrap64 (vv 31 8)))).heap[bx]? = some (.cells #[.int .i64 (vv 10 4), .int .u64 (vv 0 8), .int .i64 (vv 8 2), .int .i64 (vv 14 1), .int .i64 (wrap64 (vv 15 8)), .int .i64 (wrap64 (vv 23 8)), .int .i64 (wrap64 (vv 31 8)), .int .i64 0, .int .i64 0, .int .i64 0] 38 (0, 0))) := Lib.hid hs.2.1
      have HPS := Lib.hid ((heap_setCell_other y ⟨bx, 6, none⟩ x5.heap.size (.int .i64 (wrap64 (vv 31 8))) (by exact HNE.out)).trans HPY.out)
      clear hs
      go_wp2
      go_roundw
      case rel => exact ⟨3, by omega, by go_num, HIS.out, HBS.out, HRS.out, t, HT.out, HNE.out, HPS.out⟩
      case measure => simp [intOf]
    · have HRQ : Hid (wr.heap[bx]? = some (.cells #[.int .i64 (vv 10 4), .int .u64 (vv 0 8), .int .i64 (vv 8 2), .int .i64 (vv 14 1), .int .i64 (wrap64 (vv 15 8)), .int .i64 (wrap64 (vv 23 8)), .int .i64 (wrap64 (vv 31 8)), .int .i64 0, .int .i64 0, .int .i64 0] 38 (0, 0))) := Lib.hid HRJ.out
      have hnext : (15 + 8 * 3 : Nat) = 39 := rfl
      have HIQ : Hid (IsR wr W0.heap.size br (ST 39)) := Lib.hid HIJ.out
      clear HIJ HRJ
      go_wp2_with fail
      refine (HIN.out wr W0.heap.size br 39 HIQ.out).mono ?_
      rintro e y ⟨rfl, hr⟩
      have HIY : Hid (IsR y W0.heap.size br (ST 47)) := Lib.hid hr.1
      have HBY := Lib.hid (HBJ.out.trans hr.2.1)
      have HRY := Lib.hid (hr.2.2.block _ _ _ _ HRQ.out (by decide))
      have HPY := Lib.hid (hr.2.2.block _ _ _ _ HPT.out (by simp [RT]; exact HT.out))
      clear hr hcp
      have hc := fun j => cell_of_row y bx j _ _ _ HRY.out
      have hf := fun j => frozen_of_row y bx j _ _ HRY.out
      have hs := p_store HIY.out HRY.out hbx HBY.out 7 (.int .i64 (wrap64 (vv 39 8)))
      have HIS := Lib.hid hs.1
      have HBS := Lib.hid hs.2.2
      have HRS : Hid ((y.setCell ⟨bx, 7, none⟩ (.int .i64 (wrap64 (vv 39 8)))).heap[bx]? = some (.cells #[.int .i64 (vv 10 4), .int .u64 (vv 0 8), .int .i64 (vv 8 2), .int .i64 (vv 14 1), .int .i64 (wrap64 (vv 15 8)), .int .i64 (wrap64 (vv 23 8)), .int .i64 (wrap64 (vv 31 8)), .int .i64 (wrap64 (vv 39 8)), .int .i64 0, .int .i64 0] 38 (0, 0))) := Lib.hid hs.2.1
      have HPS := Lib.hid ((heap_setCell_other y ⟨bx, 7, none⟩ x5.heap.size (.int .i64 (wrap64 (vv 39 8))) (by exact HNE.out)).trans HPY.out)
      clear hs
      go_wp2
      go_roundw
      case rel => exact ⟨4, by omega, by go_num, HIS.out, HBS.out, HRS.out, t, HT.out, HNE.out, HPS.out⟩
      case measure => simp [intOf]
    · have HRQ : Hid (wr.heap[bx]? = some (.cells #[.int .i64 (vv 10 4), .int .u64 (vv 0 8), .int .i64 (vv 8 2), .int .i64 (vv 14 1), .int .i64 (wrap64 (vv 15 8)), .int .i64 (wrap64 (vv 23 8)), .int .i64 (wrap64 (vv 31 8)), .int .i64 (wrap64 (vv 39 8)), .int .i64 0, .int .i64 0] 38 (0, 0))) := Lib.hid HRJ.out
      have hnext : (15 + 8 * 4 : Nat) = 47 := rfl
      have HIQ : Hid (IsR wr W0.heap.size br (ST 47)) := Lib.hid HIJ.out
      clear HIJ HRJ
      go_wp2_with fail
      refine (HIN.out wr W0.heap.size br 47 HIQ.out).mono ?_
      rintro e y ⟨rfl, hr⟩
      have HIY : Hid (IsR y W0.heap.size br (ST 55)) := Lib.hid hr.1
      have HBY := Lib.hid (HBJ.out.trans hr.2.1)
      have HRY := Lib.hid (hr.2.2.block _ _ _ _ HRQ.out (by decide))
      have HPY := Lib.hid (hr.2.2.block _ _ _ _ HPT.out (by simp [RT]; exact HT.out))
      clear hr hcp
      have hc := fun j => cell_of_row y bx j _ _ _ HRY.out
      have hf := fun j => frozen_of_row y bx j _ _ HRY.out
      have hs := p_store HIY.out HRY.out hbx HBY.out 8 (.int .i64 (wrap64 (vv 47 8)))
      have HIS := Lib.hid hs.1
      have HBS := Lib.hid hs.2.2
      have HRS : Hid ((y.setCell ⟨bx, 8, none⟩ (.int .i64 (wrap64 (vv 47 8)))).heap[bx]? = some (.cells #[.int .i64 (vv 10 4), .int .u64 (vv 0 8), .int .i64 (vv 8 2), .int .i64 (vv 14 1), .int .i64 (wrap64 (vv 15 8)), .int .i64 (wrap64 (vv 23 8)), .int .i64 (wrap64 (vv 31 8)), .int .i64 (wrap64 (vv 39 8)), .int .i64 (wrap64 (vv 47 8)), .int .i64 0] 38 (0, 0))) := Lib.hid hs.2.1
      have HPS := Lib.hid ((heap_setCell_other y ⟨bx, 8, none⟩ x5.heap.size (.int .i64 (wrap64 (vv 47 8))) (by exact HNE.out)).trans HPY.out)
      clear hs
      go_wp2
      go_roundw
      case rel => exact ⟨5, by omega, by go_num, HIS.out, HBS.out, HRS.out, t, HT.out, HNE.out, HPS.out⟩
      case measure => simp [intOf]
    · have HRQ : Hid (wr.heap[bx]? = some (.cells #[.int .i64 (vv 10 4), .int .u64 (vv 0 8), .int .i64 (vv 8 2), .int .i64 (vv 14 1), .int .i64 (wrap64 (vv 15 8)), .int .i64 (wrap64 (vv 23 8)), .int .i64 (wrap64 (vv 31 8)), .int .i64 (wrap64 (vv 39 8)), .int .i64 (wrap64 (vv 47 8)), .int .i64 0] 38 (0, 0))) := Lib.hid HRJ.out
      have hnext : (15 + 8 * 5 : Nat) = 55 := rfl
      have HIQ : Hid (IsR wr W0.heap.size br (ST 55)) := Lib.hid HIJ.out
      clear HIJ HRJ
      go_wp2_with fail
      refine (HIN.out wr W0.heap.size br 55 HIQ.out).mono ?_
      rintro e y ⟨rfl, hr⟩
      have HIY : Hid (IsR y W0.heap.size br (ST 63)) := Lib.hid hr.1
      have HBY := Lib.hid (HBJ.out.trans hr.2.1)
      have HRY := Lib.hid (hr.2.2.block _ _ _ _ HRQ.out (by decide))
      have HPY := Lib.hid (hr.2.2.block _ _ _ _ HPT.out (by simp [RT]; exact HT.out))
      clear hr hcp
      have hc := fun j => cell_of_row y bx j _ _ _ HRY.out
      have hf := fun j => frozen_of_row y bx j _ _ HRY.out
      have hs := p_store HIY.out HRY.out hbx HBY.out 9 (.int .i64 (wrap64 (vv 55 8)))
      have HIS := Lib.hid hs.1
      have HBS := Lib.hid hs.2.2
      have HRS : Hid ((y.setCell ⟨bx, 9, none⟩ (.int .i64 (wrap64 (vv 55 8)))).heap[bx]? = some (.cells #[.int .i64 (vv 10 4), .int .u64 (vv 0 8), .int .i64 (vv 8 2), .int .i64 (vv 14 1), .int .i64 (wrap64 (vv 15 8)), .int .i64 (wrap64 (vv 23 8)), .int .i64 (wrap64 (vv 31 8)), .int .i64 (wrap64 (vv 39 8)), .int .i64 (wrap64 (vv 47 8)), .int .i64 (wrap64 (vv 55 8))] 38 (0, 0))) := Lib.hid hs.2.1
      have HPS := Lib.hid ((heap_setCell_other y ⟨bx, 9, none⟩ x5.heap.size (.int .i64 (wrap64 (vv 55 8))) (by exact HNE.out)).trans HPY.out)
      clear hs
      go_wp2
      go_roundw
      case rel => exact ⟨6, by omega, by go_num, HIS.out, HBS.out, HRS.out, t, HT.out, HNE.out, HPS.out⟩
      case measure => simp [intOf]
    · have HRQ : Hid (wr.heap[bx]? = some (.cells #[.int .i64 (vv 10 4), .int .u64 (vv 0 8), .int .i64 (vv 8 2), .int .i64 (vv 14 1), .int .i64 (wrap64 (vv 15 8)), .int .i64 (wrap64 (vv 23 8)), .int .i64 (wrap64 (vv 31 8)), .int .i64 (wrap64 (vv 39 8)), .int .i64 (wrap64 (vv 47 8)), .int .i64 (wrap64 (vv 55 8))] 38 (0, 0))) := Lib.hid HRJ.out
      have HIQ : Hid (IsR wr W0.heap.size br (ST 63)) := Lib.hid HIJ.out
      clear HIJ HRJ hcp
      go_wp2_with fail
      have hrz := (HBJ.out.block w.heap.size hlz).trans HRZ.out
      refine (rend_any _ br _ wr HIQ.out).mono ?_
      rintro e w6 ⟨rfl, nd, rfl⟩
      have hr6 : (wr.drewN nd).heap[bx]? = _ := HRQ.out
      have hz6 : (wr.drewN nd).heap[w.heap.size]? = _ := hrz
      have HB6 : Hid (Below w.heap.size w (wr.drewN nd)) := Lib.hid ((HBZ.out.trans (HBJ.out.mono (by omega))).trans ⟨rfl, rfl, rfl, Nat.le_refl _, fun _ _ => rfl⟩)
      generalize wr.drewN nd = w6 at *
      have HR6 := Lib.hid hr6
      have HZ6 := Lib.hid hz6
      by_cases h63 : m = 63
      · rw [if_pos (HEND.out.2 h63)]
        have hc6 := fun j => cell_of_row w6 bx j _ _ _ hr6
        have HMY := Lib.hid (fun W => may_any (vv 10 4) (vv 0 8) (vv 8 2) (vv 14 1) (wrap64 (vv 15 8)) (wrap64 (vv 23 8)) (wrap64 (vv 31 8)) (wrap64 (vv 39 8)) (wrap64 (vv 47 8)) (wrap64 (vv 55 8)) b1.1 (by omega) W)
        obtain ⟨mm, hmm⟩ : ∃ mm, Post.may (vv 10 4) (vv 0 8) (vv 8 2) (vv 14 1) [wrap64 (vv 15 8), wrap64 (vv 23 8), wrap64 (vv 31 8), wrap64 (vv 39 8), wrap64 (vv 47 8), wrap64 (vv 55 8)] = mm := ⟨_, rfl⟩
        rw [hmm] at HMY
        have HPM : Hid ((pOf b).may = mm) := Lib.hid (by rw [HP.out]; exact hmm)
        clear hmm hr6 hz6 hrz HPT HT HRQ
        go_wp2_with fail
        refine (HMY.out _).mono ?_
        rintro e wM ⟨rfl, hbM⟩
        have hrM : wM.heap[bx]? = _ := (hbM.block bx (block_lt HR6.out)).trans HR6.out
        have hzM := (hbM.block w.heap.size (block_lt HZ6.out)).trans HZ6.out
        have hcM := fun j => cell_of_row wM bx j _ _ _ hrM
        have hcz := fun j => cell_of_row wM w.heap.size j _ _ _ hzM
        have hfz := fun j => frozen_of_row wM w.heap.size j _ _ hzM
        have HZM := Lib.hid hzM
        have HBM := Lib.hid (HB6.out.trans (hbM.mono HB6.out.size))
        clear hrM hzM hbM hc6
        cases mm
        · go_wp2
          have hrowF := ten_row HZM.out (.int .i64 0) (.int .u64 0) (.int .i64 0) (.int .i64 0) (.int .i64 0) (.int .i64 0) (.int .i64 0) (.int .i64 0) (.int .i64 0) (.int .i64 0)
          refine bodyPost_ret (v := .tuple #[.agg #[.int .i64 0, .int .u64 0, .int .i64 0, .int .i64 0, .int .i64 0, .int .i64 0, .int .i64 0, .int .i64 0, .int .i64 0, .int .i64 0], .int .i64 4]) (by simp [results, Try.results39, go_sem, fun i => cell_of_row _ _ i _ _ _ hrowF]) rfl ⟨?_, ten_below HBM.out (by simp) _ _ _ _ _ _ _ _ _ _⟩
          have hno : ¬ (m = 63 ∧ (pOf b).may = true) := fun h => by have := HPM.out.symm.trans h.2; cases this
          rw [HRA'.out, HRC'.out, if_neg hno, if_neg hno]
          rfl
        · go_wp2
          have hrowF := ten_row HZM.out (.int .i64 (vv 10 4)) (.int .u64 (vv 0 8)) (.int .i64 (vv 8 2)) (.int .i64 (vv 14 1)) (.int .i64 (wrap64 (vv 15 8))) (.int .i64 (wrap64 (vv 23 8))) (.int .i64 (wrap64 (vv 31 8))) (.int .i64 (wrap64 (vv 39 8))) (.int .i64 (wrap64 (vv 47 8))) (.int .i64 (wrap64 (vv 55 8)))
          refine bodyPost_ret (v := .tuple #[.agg #[.int .i64 (vv 10 4), .int .u64 (vv 0 8), .int .i64 (vv 8 2), .int .i64 (vv 14 1), .int .i64 (wrap64 (vv 15 8)), .int .i64 (wrap64 (vv 23 8)), .int .i64 (wrap64 (vv 31 8)), .int .i64 (wrap64 (vv 39 8)), .int .i64 (wrap64 (vv 47 8)), .int .i64 (wrap64 (vv 55 8))], .int .i64 0]) (by simp [results, Try.results39, go_sem, fun i => cell_of_row _ _ i _ _ _ hrowF]) rfl ⟨?_, ten_below HBM.out (by simp) _ _ _ _ _ _ _ _ _ _⟩
          have hyes : m = 63 ∧ (pOf b).may = true := ⟨h63, HPM.out⟩
          rw [HRA'.out, HRC'.out, if_pos hyes, if_pos hyes, HP.out]
          rfl
      · rw [if_neg (fun h => h63 (HEND.out.1 h))]
        have hcz := fun j => cell_of_row w6 w.heap.size j _ _ _ hz6
        have hfz := fun j => frozen_of_row w6 w.heap.size j _ _ hz6
        clear hr6 hz6 hrz HPT HT HRQ
        go_wp2
        have hrowF := ten_row HZ6.out (.int .i64 0) (.int .u64 0) (.int .i64 0) (.int .i64 0) (.int .i64 0) (.int .i64 0) (.int .i64 0) (.int .i64 0) (.int .i64 0) (.int .i64 0)
        refine bodyPost_ret (v := .tuple #[.agg #[.int .i64 0, .int .u64 0, .int .i64 0, .int .i64 0, .int .i64 0, .int .i64 0, .int .i64 0, .int .i64 0, .int .i64 0, .int .i64 0], .int .i64 4]) (by simp [results, Try.results39, go_sem, fun i => cell_of_row _ _ i _ _ _ hrowF]) rfl ⟨?_, ten_below HB6.out (by simp) _ _ _ _ _ _ _ _ _ _⟩
        have hno : ¬ (m = 63 ∧ (pOf b).may = true) := fun h => h63 h.1
        rw [HRA'.out, HRC'.out, if_neg hno, if_neg hno]
        rfl
end Go.Proofs.Ytolfekbhlfjniaa

set_option linter.unusedVariables false
set_option linter.unusedSimpArgs false
namespace Go.Proofs.Ytolfekbhlfjniaa
open Go.RowKit

set_option maxRecDepth 4000 in
set_option maxHeartbeats 1000000 in
theorem rOf14_any (v : Value) (b : List UInt8) (w : World) (hv : BS w v b) :
    Calls Try.prog 43 #[v] w fun e w' => e = .returned (.tuple #[.agg (if b.length = 63 ∧ (pOf b).may = true then pOf b else zeroP).cells.toArray, .bool (decide (b.length = 63 ∧ (pOf b).may = true))]) ∧ Below w.heap.size w w' := by
  by_cases h63 : b.length = 63
  · obtain ⟨vv, hvv⟩ : ∃ vv : Int → Int → Int, vv = fun fr s => ((vAt b fr.toNat s.toNat : Nat) : Int) := ⟨_, rfl⟩
    have HAT : Hid (∀ (W : World) (fr s : Int), 0 ≤ fr → fr ≤ 63 → 0 ≤ s → BS W v b → Calls Try.prog 74 #[v, .int .i64 fr, .int .i64 s] W fun e w' => e = .returned (.int .u64 (vv fr s)) ∧ ∃ nd, w' = W.drewN nd) := Lib.hid (fun W fr s h0 h1 h2 h => by
      obtain ⟨F, rfl⟩ := Int.eq_ofNat_of_zero_le h0
      obtain ⟨S, rfl⟩ := Int.eq_ofNat_of_zero_le h2
      have := at14_any v b F (by omega) (S : Int) W h
      rw [vAt_num S (by omega)] at this
      rw [hvv]
      exact this)
    have hb0 : ∀ (o k : Nat), 0 ≤ vv (o : Int) (k : Int) ∧ vv (o : Int) (k : Int) < (256 ^ k : Nat) := fun o k => by
      rw [hvv]
      have := vAt_lt b o k
      exact ⟨by show (0 : Int) ≤ ((vAt b o k : Nat) : Int); omega, by show ((vAt b o k : Nat) : Int) < _; exact Int.ofNat_lt.2 this⟩
    have b1 : 0 ≤ vv 0 8 ∧ vv 0 8 < 18446744073709551616 := hb0 0 8
    have b2 : 0 ≤ vv 8 2 ∧ vv 8 2 < 65536 := hb0 8 2
    have b3 : 0 ≤ vv 10 4 ∧ vv 10 4 < 4294967296 := hb0 10 4
    have b4 : 0 ≤ vv 14 1 ∧ vv 14 1 < 256 := hb0 14 1
    have z2 : IntKind.i64.wrap (vv 8 2) = vv 8 2 := by rw [IntKind.wrap_i64]; omega
    have z3 : IntKind.i64.wrap (vv 10 4) = vv 10 4 := by rw [IntKind.wrap_i64]; omega
    have z4 : IntKind.i64.wrap (vv 14 1) = vv 14 1 := by rw [IntKind.wrap_i64]; omega
    have HP : Hid (pOf b = ⟨vv 10 4, vv 0 8, vv 8 2, vv 14 1, wrap64 (vv 15 8), wrap64 (vv 23 8), wrap64 (vv 31 8), wrap64 (vv 39 8), wrap64 (vv 47 8), wrap64 (vv 55 8)⟩) := Lib.hid (by rw [hvv]; rfl)
    clear hvv hb0
    have HV := Lib.hid hv
    have key : ∀ mm, (pOf b).may = mm → Calls Try.prog 43 #[v] w fun e w' => e = .returned (.tuple #[.agg (if mm = true then #[.int .i64 (vv 10 4), .int .u64 (vv 0 8), .int .i64 (vv 8 2), .int .i64 (vv 14 1), .int .i64 (wrap64 (vv 15 8)), .int .i64 (wrap64 (vv 23 8)), .int .i64 (wrap64 (vv 31 8)), .int .i64 (wrap64 (vv 39 8)), .int .i64 (wrap64 (vv 47 8)), .int .i64 (wrap64 (vv 55 8))] else #[.int .i64 0, .int .u64 0, .int .i64 0, .int .i64 0, .int .i64 0, .int .i64 0, .int .i64 0, .int .i64 0, .int .i64 0, .int .i64 0]), .bool mm]) ∧ Below w.heap.size w w' := by
      intro mm hmm
      rw [HP.out] at hmm
      have hmay : Post.may (vv 10 4) (vv 0 8) (vv 8 2) (vv 14 1) [wrap64 (vv 15 8), wrap64 (vv 23 8), wrap64 (vv 31 8), wrap64 (vv 39 8), wrap64 (vv 47 8), wrap64 (vv 55 8)] = mm := hmm
      have HMY := Lib.hid (fun W => rMay_any (vv 10 4) (vv 0 8) (vv 8 2) (vv 14 1) (wrap64 (vv 15 8)) (wrap64 (vv 23 8)) (wrap64 (vv 31 8)) (wrap64 (vv 39 8)) (wrap64 (vv 47 8)) (wrap64 (vv 55 8)) b1.1 (by omega) W)
      rw [hmay] at HMY
      clear hmm hmay
      obtain ⟨p, cap, rfl, g1, g2, -⟩ := hv
      rw [h63] at HV HAT g1 ⊢
      unfold maxLen at g2
      have HB0 := Lib.hid ((Below.refl w.heap.size w).alloc (Nat.le_refl _) (.cells #[.int .i64 0, .int .u64 0, .int .i64 0, .int .i64 0, .int .i64 0, .int .i64 0, .int .i64 0, .int .i64 0, .int .i64 0, .int .i64 0] 38))
      have hrow0 : (w.alloc (.cells #[.int .i64 0, .int .u64 0, .int .i64 0, .int .i64 0, .int .i64 0, .int .i64 0, .int .i64 0, .int .i64 0, .int .i64 0, .int .i64 0] 38)).heap[w.heap.size]? = _ := new_rowW _ _ _ rfl
      have HV0 := Lib.hid (HV.out.alloc (.cells #[.int .i64 0, .int .u64 0, .int .i64 0, .int .i64 0, .int .i64 0, .int .i64 0, .int .i64 0, .int .i64 0, .int .i64 0, .int .i64 0] 38))
      go_enter Try.func43, Try.ntmps43
      go_wp2_with fail
      generalize w.alloc (.cells #[.int .i64 0, .int .u64 0, .int .i64 0, .int .i64 0, .int .i64 0, .int .i64 0, .int .i64 0, .int .i64 0, .int .i64 0, .int .i64 0] 38) = W0 at *
      refine (HAT.out _ 0 8 (by decide) (by decide) (by decide) HV0.out).mono ?_
      rintro e w1 ⟨rfl, n1, rfl⟩
      go_wp2_with fail
      refine (HAT.out _ 8 2 (by decide) (by decide) (by decide) (HV0.out.drewN' _)).mono ?_
      rintro e w1 ⟨rfl, n2, rfl⟩
      go_wp2_with fail
      refine (HAT.out _ 10 4 (by decide) (by decide) (by decide) (HV0.out.drewN' _)).mono ?_
      rintro e w1 ⟨rfl, n3, rfl⟩
      go_wp2_with fail
      refine (HAT.out _ 14 1 (by decide) (by decide) (by decide) (HV0.out.drewN' _)).mono ?_
      rintro e w1 ⟨rfl, n4, rfl⟩
      have hrow4 : ((W0.drewN (n1 + n2 + n3)).drewN n4).heap[w.heap.size]? = _ := hrow0
      have HV4 := Lib.hid ((HV0.out.drewN' (n1 + n2 + n3)).drewN' n4)
      have HB4 : Hid (Below w.heap.size w ((W0.drewN (n1 + n2 + n3)).drewN n4)) := Lib.hid (HB0.out.trans ⟨rfl, rfl, rfl, Nat.le_refl _, fun _ _ => rfl⟩)
      clear hrow0
      generalize (W0.drewN (n1 + n2 + n3)).drewN n4 = W4 at *
      have hc4 := fun j => cell_of_row W4 _ j _ _ _ hrow4
      have hf4 := fun j => frozen_of_row W4 _ j _ _ hrow4
      go_wp2_with fail
      have HBA := Lib.hid (HB4.out.alloc HB4.out.size (.cells #[.int .i64 (vv 10 4), .int .u64 (vv 0 8), .int .i64 (vv 8 2), .int .i64 (vv 14 1), .int .i64 0, .int .i64 0, .int .i64 0, .int .i64 0, .int .i64 0, .int .i64 0] 38))
      have hrowA : (W4.alloc (.cells #[.int .i64 (vv 10 4), .int .u64 (vv 0 8), .int .i64 (vv 8 2), .int .i64 (vv 14 1), .int .i64 0, .int .i64 0, .int .i64 0, .int .i64 0, .int .i64 0, .int .i64 0] 38)).heap[W4.heap.size]? = _ := new_rowW _ _ _ rfl
      have hbx := HB4.out.size
      have hbx2 : w.heap.size < W4.heap.size := block_lt hrow4
      have HRZ0 := Lib.hid (row_allocW hrow4 (.cells #[.int .i64 (vv 10 4), .int .u64 (vv 0 8), .int .i64 (vv 8 2), .int .i64 (vv 14 1), .int .i64 0, .int .i64 0, .int .i64 0, .int .i64 0, .int .i64 0, .int .i64 0] 38))
      clear hc4 hf4 hrow4 HV4
      generalize W4.alloc (.cells #[.int .i64 (vv 10 4), .int .u64 (vv 0 8), .int .i64 (vv 8 2), .int .i64 (vv 14 1), .int .i64 0, .int .i64 0, .int .i64 0, .int .i64 0, .int .i64 0, .int .i64 0] 38) = A0 at *
      generalize W4.heap.size = bx at *
      have HROA0 := Lib.hid hrowA
      clear hrowA HB4
      have HA0 := HBA
      refine (HAT.out _ 15 8 (by decide) (by decide) (by decide) (HV.out.below HA0.out)).mono ?_
      rintro e w1 ⟨rfl, m0, rfl⟩
      have hrow0 : (A0.drewN m0).heap[bx]? = _ := HROA0.out
      have HX0 : Hid (Below w.heap.size w (A0.drewN m0)) := Lib.hid (HA0.out.trans ⟨rfl, rfl, rfl, Nat.le_refl _, fun _ _ => rfl⟩)
      have HRX0 : Hid ((A0.drewN m0).heap[w.heap.size]? = _) := Lib.hid HRZ0.out
      generalize A0.drewN m0 = X0 at *
      have hc0 := fun j => cell_of_row X0 bx j _ _ _ hrow0
      have hf0 := fun j => frozen_of_row X0 bx j _ _ hrow0
      have HA1 := Lib.hid (HX0.out.setCell (p := ⟨bx, 4, none⟩) hbx (.int .i64 (wrap64 (vv 15 8))))
      have hrowS0 : (X0.setCell ⟨bx, 4, none⟩ (.int .i64 (wrap64 (vv 15 8)))).heap[bx]? = some (.cells #[.int .i64 (vv 10 4), .int .u64 (vv 0 8), .int .i64 (vv 8 2), .int .i64 (vv 14 1), .int .i64 (wrap64 (vv 15 8)), .int .i64 0, .int .i64 0, .int .i64 0, .int .i64 0, .int .i64 0] 38 (0, 0)) := heap_setCell_same _ _ _ _ _ _ hrow0
      have HROA1 := Lib.hid hrowS0
      have HRZ1 := Lib.hid ((heap_setCell_other X0 ⟨bx, 4, none⟩ w.heap.size (.int .i64 (wrap64 (vv 15 8))) (by show w.heap.size ≠ bx; omega)).trans HRX0.out)
      clear hrow0 hrowS0
      go_wp2_with fail
      clear hc0 hf0
      generalize X0.setCell ⟨bx, 4, none⟩ (.int .i64 (wrap64 (vv 15 8))) = A1 at *
      refine (HAT.out _ 23 8 (by decide) (by decide) (by decide) (HV.out.below HA1.out)).mono ?_
      rintro e w1 ⟨rfl, m1, rfl⟩
      have hrow1 : (A1.drewN m1).heap[bx]? = _ := HROA1.out
      have HX1 : Hid (Below w.heap.size w (A1.drewN m1)) := Lib.hid (HA1.out.trans ⟨rfl, rfl, rfl, Nat.le_refl _, fun _ _ => rfl⟩)
      have HRX1 : Hid ((A1.drewN m1).heap[w.heap.size]? = _) := Lib.hid HRZ1.out
      generalize A1.drewN m1 = X1 at *
      have hc1 := fun j => cell_of_row X1 bx j _ _ _ hrow1
      have hf1 := fun j => frozen_of_row X1 bx j _ _ hrow1
      have HA2 := Lib.hid (HX1.out.setCell (p := ⟨bx, 5, none⟩) hbx (.int .i64 (wrap64 (vv 23 8))))
      have hrowS1 : (X1.setCell ⟨bx, 5, none⟩ (.int .i64 (wrap64 (vv 23 8)))).heap[bx]? = some (.cells #[.int .i64 (vv 10 4), .int .u64 (vv 0 8), .int .i64 (vv 8 2), .int .i64 (vv 14 1), .int .i64 (wrap64 (vv 15 8)), .int .i64 (wrap64 (vv 23 8)), .int .i64 0, .int .i64 0, .int .i64 0, .int .i64 0] 38 (0, 0)) := heap_setCell_same _ _ _ _ _ _ hrow1
      have HROA2 := Lib.hid hrowS1
      have HRZ2 := Lib.hid ((heap_setCell_other X1 ⟨bx, 5, none⟩ w.heap.size (.int .i64 (wrap64 (vv 23 8))) (by show w.heap.size ≠ bx; omega)).trans HRX1.out)
      clear hrow1 hrowS1
      go_wp2_with fail
      clear hc1 hf1
      generalize X1.setCell ⟨bx, 5, none⟩ (.int .i64 (wrap64 (vv 23 8))) = A2 at *
      refine (HAT.out _ 31 8 (by decide) (by decide) (by decide) (HV.out.below HA2.out)).mono ?_
      rintro e w1 ⟨rfl, m2, rfl⟩
      have hrow2 : (A2.drewN m2).heap[bx]? = _ := HROA2.out
      have HX2 : Hid (Below w.heap.size w (A2.drewN m2)) := Lib.hid (HA2.out.trans ⟨rfl, rfl, rfl, Nat.le_refl _, fun _ _ => rfl⟩)
      have HRX2 : Hid ((A2.drewN m2).heap[w.heap.size]? = _) := Lib.hid HRZ2.out
      generalize A2.drewN m2 = X2 at *
      have hc2 := fun j => cell_of_row X2 bx j _ _ _ hrow2
      have hf2 := fun j => frozen_of_row X2 bx j _ _ hrow2
      have HA3 := Lib.hid (HX2.out.setCell (p := ⟨bx, 6, none⟩) hbx (.int .i64 (wrap64 (vv 31 8))))
      have hrowS2 : (X2.setCell ⟨bx, 6, none⟩ (.int .i64 (wrap64 (vv 31 8)))).heap[bx]? = some (.cells #[.int .i64 (vv 10 4), .int .u64 (vv 0 8), .int .i64 (vv 8 2), .int .i64 (vv 14 1), .int .i64 (wrap64 (vv 15 8)), .int .i64 (wrap64 (vv 23 8)), .int .i64 (wrap64 (vv 31 8)), .int .i64 0, .int .i64 0, .int .i64 0] 38 (0, 0)) := heap_setCell_same _ _ _ _ _ _ hrow2
      have HROA3 := Lib.hid hrowS2
      have HRZ3 := Lib.hid ((heap_setCell_other X2 ⟨bx, 6, none⟩ w.heap.size (.int .i64 (wrap64 (vv 31 8))) (by show w.heap.size ≠ bx; omega)).trans HRX2.out)
      clear hrow2 hrowS2
      go_wp2_with fail
      clear hc2 hf2
      generalize X2.setCell ⟨bx, 6, none⟩ (.int .i64 (wrap64 (vv 31 8))) = A3 at *
      refine (HAT.out _ 39 8 (by decide) (by decide) (by decide) (HV.out.below HA3.out)).mono ?_
      rintro e w1 ⟨rfl, m3, rfl⟩
      have hrow3 : (A3.drewN m3).heap[bx]? = _ := HROA3.out
      have HX3 : Hid (Below w.heap.size w (A3.drewN m3)) := Lib.hid (HA3.out.trans ⟨rfl, rfl, rfl, Nat.le_refl _, fun _ _ => rfl⟩)
      have HRX3 : Hid ((A3.drewN m3).heap[w.heap.size]? = _) := Lib.hid HRZ3.out
      generalize A3.drewN m3 = X3 at *
      have hc3 := fun j => cell_of_row X3 bx j _ _ _ hrow3
      have hf3 := fun j => frozen_of_row X3 bx j _ _ hrow3
      have HA4 := Lib.hid (HX3.out.setCell (p := ⟨bx, 7, none⟩) hbx (.int .i64 (wrap64 (vv 39 8))))
      have hrowS3 : (X3.setCell ⟨bx, 7, none⟩ (.int .i64 (wrap64 (vv 39 8)))).heap[bx]? = some (.cells #[.int .i64 (vv 10 4), .int .u64 (vv 0 8), .int .i64 (vv 8 2), .int .i64 (vv 14 1), .int .i64 (wrap64 (vv 15 8)), .int .i64 (wrap64 (vv 23 8)), .int .i64 (wrap64 (vv 31 8)), .int .i64 (wrap64 (vv 39 8)), .int .i64 0, .int .i64 0] 38 (0, 0)) := heap_setCell_same _ _ _ _ _ _ hrow3
      have HROA4 := Lib.hid hrowS3
      have HRZ4 := Lib.hid ((heap_setCell_other X3 ⟨bx, 7, none⟩ w.heap.size (.int .i64 (wrap64 (vv 39 8))) (by show w.heap.size ≠ bx; omega)).trans HRX3.out)
      clear hrow3 hrowS3
      go_wp2_with fail
      clear hc3 hf3
      generalize X3.setCell ⟨bx, 7, none⟩ (.int .i64 (wrap64 (vv 39 8))) = A4 at *
      refine (HAT.out _ 47 8 (by decide) (by decide) (by decide) (HV.out.below HA4.out)).mono ?_
      rintro e w1 ⟨rfl, m4, rfl⟩
      have hrow4 : (A4.drewN m4).heap[bx]? = _ := HROA4.out
      have HX4 : Hid (Below w.heap.size w (A4.drewN m4)) := Lib.hid (HA4.out.trans ⟨rfl, rfl, rfl, Nat.le_refl _, fun _ _ => rfl⟩)
      have HRX4 : Hid ((A4.drewN m4).heap[w.heap.size]? = _) := Lib.hid HRZ4.out
      generalize A4.drewN m4 = X4 at *
      have hc4 := fun j => cell_of_row X4 bx j _ _ _ hrow4
      have hf4 := fun j => frozen_of_row X4 bx j _ _ hrow4
      have HA5 := Lib.hid (HX4.out.setCell (p := ⟨bx, 8, none⟩) hbx (.int .i64 (wrap64 (vv 47 8))))
      have hrowS4 : (X4.setCell ⟨bx, 8, none⟩ (.int .i64 (wrap64 (vv 47 8)))).heap[bx]? = some (.cells #[.int .i64 (vv 10 4), .int .u64 (vv 0 8), .int .i64 (vv 8 2), .int .i64 (vv 14 1), .int .i64 (wrap64 (vv 15 8)), .int .i64 (wrap64 (vv 23 8)), .int .i64 (wrap64 (vv 31 8)), .int .i64 (wrap64 (vv 39 8)), .int .i64 (wrap64 (vv 47 8)), .int .i64 0] 38 (0, 0)) := heap_setCell_same _ _ _ _ _ _ hrow4
      have HROA5 := Lib.hid hrowS4
      have HRZ5 := Lib.hid ((heap_setCell_other X4 ⟨bx, 8, none⟩ w.heap.size (.int .i64 (wrap64 (vv 47 8))) (by show w.heap.size ≠ bx; omega)).trans HRX4.out)
      clear hrow4 hrowS4
      go_wp2_with fail
      clear hc4 hf4
      generalize X4.setCell ⟨bx, 8, none⟩ (.int .i64 (wrap64 (vv 47 8))) = A5 at *
      refine (HAT.out _ 55 8 (by decide) (by decide) (by decide) (HV.out.below HA5.out)).mono ?_
      rintro e w1 ⟨rfl, m5, rfl⟩
      have hrow5 : (A5.drewN m5).heap[bx]? = _ := HROA5.out
      have HX5 : Hid (Below w.heap.size w (A5.drewN m5)) := Lib.hid (HA5.out.trans ⟨rfl, rfl, rfl, Nat.le_refl _, fun _ _ => rfl⟩)
      have HRX5 : Hid ((A5.drewN m5).heap[w.heap.size]? = _) := Lib.hid HRZ5.out
      generalize A5.drewN m5 = X5 at *
      have hc5 := fun j => cell_of_row X5 bx j _ _ _ hrow5
      have hf5 := fun j => frozen_of_row X5 bx j _ _ hrow5
      have HA6 := Lib.hid (HX5.out.setCell (p := ⟨bx, 9, none⟩) hbx (.int .i64 (wrap64 (vv 55 8))))
      have hrowS5 : (X5.setCell ⟨bx, 9, none⟩ (.int .i64 (wrap64 (vv 55 8)))).heap[bx]? = some (.cells #[.int .i64 (vv 10 4), .int .u64 (vv 0 8), .int .i64 (vv 8 2), .int .i64 (vv 14 1), .int .i64 (wrap64 (vv 15 8)), .int .i64 (wrap64 (vv 23 8)), .int .i64 (wrap64 (vv 31 8)), .int .i64 (wrap64 (vv 39 8)), .int .i64 (wrap64 (vv 47 8)), .int .i64 (wrap64 (vv 55 8))] 38 (0, 0)) := heap_setCell_same _ _ _ _ _ _ hrow5
      have HROA6 := Lib.hid hrowS5
      have HRZ6 := Lib.hid ((heap_setCell_other X5 ⟨bx, 9, none⟩ w.heap.size (.int .i64 (wrap64 (vv 55 8))) (by show w.heap.size ≠ bx; omega)).trans HRX5.out)
      clear hrow5 hrowS5
      have hcF : ∀ j, (X5.setCell ⟨bx, 9, none⟩ (.int .i64 (wrap64 (vv 55 8)))).cell? ⟨bx, j, none⟩ = (#[.int .i64 (vv 10 4), .int .u64 (vv 0 8), .int .i64 (vv 8 2), .int .i64 (vv 14 1), .int .i64 (wrap64 (vv 15 8)), .int .i64 (wrap64 (vv 23 8)), .int .i64 (wrap64 (vv 31 8)), .int .i64 (wrap64 (vv 39 8)), .int .i64 (wrap64 (vv 47 8)), .int .i64 (wrap64 (vv 55 8))] : Array Value)[j]? := fun j => cell_of_row _ bx j _ _ _ HROA6.out
      go_wp2_with fail
      clear hc5 hf5 hcF
      generalize X5.setCell ⟨bx, 9, none⟩ (.int .i64 (wrap64 (vv 55 8))) = A6 at *
      refine (HMY.out _).mono ?_
      rintro e wM ⟨rfl, hbM⟩
      have hrowM : wM.heap[bx]? = _ := (hbM.block bx (block_lt HROA6.out)).trans HROA6.out
      have hcM := fun j => cell_of_row wM bx j _ _ _ hrowM
      have HBM := Lib.hid (HA6.out.trans (hbM.mono HA6.out.size))
      have hrz := (hbM.block w.heap.size (block_lt HRZ6.out)).trans HRZ6.out
      have HRZ := Lib.hid hrz
      have hcz := fun j => cell_of_row wM w.heap.size j _ _ _ hrz
      have hfz := fun j => frozen_of_row wM w.heap.size j _ _ hrz
      clear hrowM hbM hrz
      cases mm
      · go_wp2
        have hrow := ten_row HRZ.out (.int .i64 0) (.int .u64 0) (.int .i64 0) (.int .i64 0) (.int .i64 0) (.int .i64 0) (.int .i64 0) (.int .i64 0) (.int .i64 0) (.int .i64 0)
        refine bodyPost_ret (v := .tuple #[.agg #[.int .i64 0, .int .u64 0, .int .i64 0, .int .i64 0, .int .i64 0, .int .i64 0, .int .i64 0, .int .i64 0, .int .i64 0, .int .i64 0], .bool false]) (by simp [results, Try.results43, go_sem, fun i => cell_of_row _ _ i _ _ _ hrow]) rfl ⟨rfl, ?_⟩
        exact ten_below HBM.out (by simp) _ _ _ _ _ _ _ _ _ _
      · go_wp2
        have hrow := ten_row HRZ.out (.int .i64 (vv 10 4)) (.int .u64 (vv 0 8)) (.int .i64 (vv 8 2)) (.int .i64 (vv 14 1)) (.int .i64 (wrap64 (vv 15 8))) (.int .i64 (wrap64 (vv 23 8))) (.int .i64 (wrap64 (vv 31 8))) (.int .i64 (wrap64 (vv 39 8))) (.int .i64 (wrap64 (vv 47 8))) (.int .i64 (wrap64 (vv 55 8)))
        refine bodyPost_ret (v := .tuple #[.agg #[.int .i64 (vv 10 4), .int .u64 (vv 0 8), .int .i64 (vv 8 2), .int .i64 (vv 14 1), .int .i64 (wrap64 (vv 15 8)), .int .i64 (wrap64 (vv 23 8)), .int .i64 (wrap64 (vv 31 8)), .int .i64 (wrap64 (vv 39 8)), .int .i64 (wrap64 (vv 47 8)), .int .i64 (wrap64 (vv 55 8))], .bool true]) (by simp [results, Try.results43, go_sem, fun i => cell_of_row _ _ i _ _ _ hrow]) rfl ⟨rfl, ?_⟩
        exact ten_below HBM.out (by simp) _ _ _ _ _ _ _ _ _ _
    refine (key _ rfl).mono fun e w' ⟨he, hb⟩ => ⟨?_, hb⟩
    rw [he]
    cases hm : (pOf b).may with
    | true => rw [if_pos rfl, if_pos ⟨h63, rfl⟩, HP.out]; simp [h63, Pst.cells]
    | false => rw [if_neg (by decide), if_neg (fun h => by cases h.2)]; simp [zeroP, Pst.cells]
  · have HV := Lib.hid hv
    have e1 : (if b.length = 63 ∧ (pOf b).may = true then pOf b else zeroP) = zeroP := if_neg (fun h => h63 h.1)
    have e2 : decide (b.length = 63 ∧ (pOf b).may = true) = false := by simp [h63]
    rw [e1, e2, show zeroP.cells.toArray = (#[.int .i64 0, .int .u64 0, .int .i64 0, .int .i64 0, .int .i64 0, .int .i64 0, .int .i64 0, .int .i64 0, .int .i64 0, .int .i64 0] : Array Value) from rfl]
    obtain ⟨p, cap, rfl, g1, g2, -⟩ := hv
    unfold maxLen at g2
    clear e1 e2
    generalize b.length = m at *
    go_enter Try.func43, Try.ntmps43
    have hbz := (Below.refl w.heap.size w).alloc (Nat.le_refl _) (.cells #[.int .i64 0, .int .u64 0, .int .i64 0, .int .i64 0, .int .i64 0, .int .i64 0, .int .i64 0, .int .i64 0, .int .i64 0, .int .i64 0] 38)
    have hrz : (w.alloc (.cells #[.int .i64 0, .int .u64 0, .int .i64 0, .int .i64 0, .int .i64 0, .int .i64 0, .int .i64 0, .int .i64 0, .int .i64 0, .int .i64 0] 38)).heap[w.heap.size]? = _ := new_rowW _ _ _ rfl
    go_wp2
    have hrow := ten_row hrz (.int .i64 0) (.int .u64 0) (.int .i64 0) (.int .i64 0) (.int .i64 0) (.int .i64 0) (.int .i64 0) (.int .i64 0) (.int .i64 0) (.int .i64 0)
    refine bodyPost_ret (v := .tuple #[.agg #[.int .i64 0, .int .u64 0, .int .i64 0, .int .i64 0, .int .i64 0, .int .i64 0, .int .i64 0, .int .i64 0, .int .i64 0, .int .i64 0], .bool false]) (by simp [results, Try.results43, go_sem, fun i => cell_of_row _ _ i _ _ _ hrow]) rfl ⟨rfl, ?_⟩
    exact (Below.refl _ _).alloc (Nat.le_refl _) _
end Go.Proofs.Ytolfekbhlfjniaa

set_option linter.unusedVariables false
set_option linter.unusedSimpArgs false
namespace Go.Proofs.Ytolfekbhlfjniaa
open Go.RowKit

/-- a cursor at block g over bytes that lie below base; none: it is bad -/
def IsC (w : World) (base g : Nat) (st : Option (List UInt8)) : Prop :=
  base ≤ g ∧ ∃ (v : Value) (b : List UInt8) (bad : Bool), w.heap[g]? = some (.cells #[v, .bool bad] 80 (0, 0)) ∧ (∀ W, Below base w W → BS W v b) ∧ st = if bad then none else some b
theorem IsC.lt {w : World} {base g : Nat} {st : Option (List UInt8)} (h : IsC w base g st) : base ≤ g ∧ g < w.heap.size := by
  obtain ⟨hb, v, b, bad, h1, _⟩ := h
  exact ⟨hb, block_lt h1⟩
theorem IsC.below {w w' : World} {base g : Nat} {st : Option (List UInt8)} (h : IsC w base g st) (hw : Below w.heap.size w w') : IsC w' base g st := by
  have hlt := h.lt
  obtain ⟨hb, v, b, bad, h1, h2, h3⟩ := h
  exact ⟨hb, v, b, bad, (hw.block g hlt.2).trans h1, fun W hW => h2 W ((hw.mono (by omega)).trans hW), h3⟩
/-- what a cursor's method leaves -/
def CStep (w w' : World) (base g : Nat) (st : Option (List UInt8)) : Prop := IsC w' base g st ∧ Only g w w' ∧ w'.heap.size = w.heap.size
theorem only_below {w w' : World} {base g : Nat} (h : Only g w w') (hb : base ≤ g) (hl : base ≤ w.heap.size) : Below base w w' := Only.below (Below.refl _ _) hb hl h

set_option maxRecDepth 4000 in
set_option maxHeartbeats 1000000 in
theorem cTake_any (base g : Nat) (st : Option (List UInt8)) (s : Int) (w : World) (h : IsC w base g st) :
    Calls Try.prog 42 #[.pointer (some ⟨g, 0, none⟩), .int .i64 s] w fun e w' => e = .returned (.int .u64 (rNumV st s : Int)) ∧ CStep w w' base g (rNumS st s) := by
  have hlt := h.lt
  obtain ⟨hb, v, b, bad, hrow, hbs, rfl⟩ := h
  have hc := fun j => cell_of_row w g j _ _ _ hrow
  have hf := fun j => frozen_of_row w g j _ _ hrow
  have HROW := Lib.hid hrow
  have HBS := Lib.hid hbs
  have HTN := Lib.hid (rTakeNumber_any v b s w (hbs w (Below.refl _ _)))
  clear hrow hbs
  obtain ⟨ok, hok⟩ : ∃ ok, (tNum b s).isSome = ok := ⟨_, rfl⟩
  rw [hok] at HTN
  have HOK := Lib.hid hok
  clear hok
  generalize hV : numV b s = V at *
  have HV := Lib.hid hV
  clear hV
  go_enter Try.func42, Try.ntmps42
  go_wp2_with fail
  refine HTN.out.mono ?_
  rintro e w1 ⟨y, rfl, hy, nd, rfl⟩
  obtain ⟨py, cy, rfl, -, -, -⟩ := hy w (HBS.out w (Below.refl _ _))
  have HY := Lib.hid hy
  clear hy
  generalize (numR b s).length = ny at *
  have HN := rNum_t b s
  cases bad
  · cases ok
    · have HT : tNum b s = none := by have := HOK.out; cases h : tNum b s with | none => rfl | some q => rw [h] at this; cases this
      have HON : Only g w ((w.drewN nd).setCell ⟨g, 1, none⟩ (.bool true)) := ((Only.refl g w).drewN nd).setCell 1 _
      have HR2 : ((w.drewN nd).setCell ⟨g, 1, none⟩ (.bool true)).heap[g]? = some (.cells #[v, .bool true] 80 (0, 0)) := heap_setCell_same _ _ _ _ _ _ (show (w.drewN nd).heap[g]? = _ from HROW.out)
      have HFIN : Hid (rNumV (some b) s = 0 ∧ CStep w ((w.drewN nd).setCell ⟨g, 1, none⟩ (.bool true)) base g (rNumS (some b) s)) := Lib.hid (by
        rw [HN.1, HN.2]
        unfold numV
        rw [HT]
        exact ⟨rfl, ⟨hb, v, b, true, HR2, fun W hW => HBS.out W ((only_below HON hb (by omega)).trans hW), rfl⟩, HON, by simp⟩)
      clear HT HON HR2 HN
      go_wp2
      go_ret
      exact ⟨by show Ending.returned (.int .u64 0) = Ending.returned (.int .u64 (rNumV (some b) s : Int)); rw [HFIN.out.1]; rfl, HFIN.out.2⟩
    · have HON : Only g w (((w.drewN nd).setCell ⟨g, 1, none⟩ (.bool false)).setCell ⟨g, 0, none⟩ (.slice py ny cy)) := (((Only.refl g w).drewN nd).setCell 1 _).setCell 0 _
      have HR2 : (((w.drewN nd).setCell ⟨g, 1, none⟩ (.bool false)).setCell ⟨g, 0, none⟩ (.slice py ny cy)).heap[g]? = some (.cells #[.slice py ny cy, .bool false] 80 (0, 0)) := heap_setCell_same _ _ _ _ _ _ (heap_setCell_same _ _ _ _ _ _ (show (w.drewN nd).heap[g]? = _ from HROW.out))
      have HFIN : Hid (rNumV (some b) s = V ∧ CStep w (((w.drewN nd).setCell ⟨g, 1, none⟩ (.bool false)).setCell ⟨g, 0, none⟩ (.slice py ny cy)) base g (rNumS (some b) s)) := Lib.hid (by
        rw [HN.1, HN.2, HV.out]
        refine ⟨rfl, ⟨hb, _, numR b s, false, HR2, fun W hW => HY.out W (HBS.out W ((only_below HON hb (by omega)).trans hW)), ?_⟩, HON, by simp⟩
        unfold numR
        have := HOK.out
        cases h : tNum b s with
        | none => rw [h] at this; cases this
        | some q => rfl)
      clear HON HR2 HN
      go_wp2
      go_ret
      exact ⟨by show Ending.returned (.int .u64 (V : Int)) = Ending.returned (.int .u64 (rNumV (some b) s : Int)); rw [HFIN.out.1], HFIN.out.2⟩
  · have HON : Only g w ((w.drewN nd).setCell ⟨g, 1, none⟩ (.bool true)) := ((Only.refl g w).drewN nd).setCell 1 _
    have HR2 : ((w.drewN nd).setCell ⟨g, 1, none⟩ (.bool true)).heap[g]? = some (.cells #[v, .bool true] 80 (0, 0)) := heap_setCell_same _ _ _ _ _ _ (show (w.drewN nd).heap[g]? = _ from HROW.out)
    have HFIN : Hid (rNumV none s = 0 ∧ CStep w ((w.drewN nd).setCell ⟨g, 1, none⟩ (.bool true)) base g (rNumS none s)) := Lib.hid (by
      refine ⟨by unfold rNumV; split <;> rfl, ⟨hb, v, b, true, HR2, fun W hW => HBS.out W ((only_below HON hb (by omega)).trans hW), by unfold rNumS; split <;> rfl⟩, HON, by simp⟩)
    clear HON HR2 HN
    go_wp2
    go_ret
    exact ⟨by show Ending.returned (.int .u64 0) = Ending.returned (.int .u64 (rNumV none s : Int)); rw [HFIN.out.1]; rfl, HFIN.out.2⟩

set_option maxRecDepth 4000 in
set_option maxHeartbeats 1000000 in
theorem cCut_any (base g : Nat) (st : Option (List UInt8)) (s : Int) (w : World) (h : IsC w base g st) :
    Calls Try.prog 44 #[.pointer (some ⟨g, 0, none⟩), .int .i64 s] w fun e w' => ∃ x, e = .returned x ∧ (∀ W, Below base w' W → BS W x (rBy st s)) ∧ CStep w w' base g (rRest st s) := by
  have hlt := h.lt
  obtain ⟨hb, v, b, bad, hrow, hbs, rfl⟩ := h
  have hc := fun j => cell_of_row w g j _ _ _ hrow
  have hf := fun j => frozen_of_row w g j _ _ hrow
  have HROW := Lib.hid hrow
  have HBS := Lib.hid hbs
  have HTN := Lib.hid (rCut_any v b s w (hbs w (Below.refl _ _)))
  clear hrow hbs
  obtain ⟨ok, hok⟩ : ∃ ok, (tCut b s).isSome = ok := ⟨_, rfl⟩
  rw [hok] at HTN
  have HOK := Lib.hid hok
  clear hok
  go_enter Try.func44, Try.ntmps44
  go_wp2_with fail
  refine HTN.out.mono ?_
  rintro e w1 ⟨x, y, rfl, hy, nd, rfl⟩
  obtain ⟨py, cy, rfl, -, -, -⟩ := (hy w (HBS.out w (Below.refl _ _))).2
  have HY := Lib.hid hy
  clear hy
  generalize (cutY b s).length = ny at *
  cases bad
  · cases ok
    · have HON : Only g w ((w.drewN nd).setCell ⟨g, 1, none⟩ (.bool true)) := ((Only.refl g w).drewN nd).setCell 1 _
      have HR2 : ((w.drewN nd).setCell ⟨g, 1, none⟩ (.bool true)).heap[g]? = some (.cells #[v, .bool true] 80 (0, 0)) := heap_setCell_same _ _ _ _ _ _ (show (w.drewN nd).heap[g]? = _ from HROW.out)
      have HFIN : Hid (rBy (some b) s = [] ∧ CStep w ((w.drewN nd).setCell ⟨g, 1, none⟩ (.bool true)) base g (rRest (some b) s)) := Lib.hid (by
        have hno : ¬ (0 ≤ s ∧ s ≤ b.length) := fun h => by have := HOK.out; unfold tCut at this; rw [if_pos h] at this; cases this
        have h1 := rTake_bad (st := some b) (n := s) (fun l e => by injection e with e; subst e; exact hno)
        unfold rBy
        rw [h1.1, h1.2]
        exact ⟨rfl, ⟨hb, v, b, true, HR2, fun W hW => HBS.out W ((only_below HON hb (by omega)).trans hW), rfl⟩, HON, by simp⟩)
      clear HON HR2
      go_wp2
      go_ret
      exact ⟨_, rfl, fun W _ => by show BS W (.slice none 0 0) (rBy (some b) s); rw [HFIN.out.1]; exact BS.nil W, HFIN.out.2⟩
    · have HON : Only g w (((w.drewN nd).setCell ⟨g, 1, none⟩ (.bool false)).setCell ⟨g, 0, none⟩ (.slice py ny cy)) := (((Only.refl g w).drewN nd).setCell 1 _).setCell 0 _
      have HR2 : (((w.drewN nd).setCell ⟨g, 1, none⟩ (.bool false)).setCell ⟨g, 0, none⟩ (.slice py ny cy)).heap[g]? = some (.cells #[.slice py ny cy, .bool false] 80 (0, 0)) := heap_setCell_same _ _ _ _ _ _ (heap_setCell_same _ _ _ _ _ _ (show (w.drewN nd).heap[g]? = _ from HROW.out))
      have HFIN : Hid (cutX b s = rBy (some b) s ∧ CStep w (((w.drewN nd).setCell ⟨g, 1, none⟩ (.bool false)).setCell ⟨g, 0, none⟩ (.slice py ny cy)) base g (rRest (some b) s)) := Lib.hid (by
        have hyes : 0 ≤ s ∧ s ≤ b.length := by
          by_cases h : 0 ≤ s ∧ s ≤ b.length
          · exact h
          · have := HOK.out; unfold tCut at this; rw [if_neg h] at this; cases this
        refine ⟨?_, ⟨hb, _, cutY b s, false, HR2, fun W hW => (HY.out W (HBS.out W ((only_below HON hb (by omega)).trans hW))).2, ?_⟩, HON, by simp⟩
        · unfold cutX rBy rTake tCut; simp only [if_pos hyes]; rfl
        · unfold cutY rRest tCut; simp only [if_pos hyes]; rfl)
      have HON' := Lib.hid HON
      clear HON HR2
      go_wp2
      go_ret
      exact ⟨_, rfl, fun W hW => by show BS W x (rBy (some b) s); rw [← HFIN.out.1]; exact (HY.out W (HBS.out W ((only_below HON'.out hb (by omega)).trans hW))).1, HFIN.out.2⟩
  · have HON : Only g w ((w.drewN nd).setCell ⟨g, 1, none⟩ (.bool true)) := ((Only.refl g w).drewN nd).setCell 1 _
    have HR2 : ((w.drewN nd).setCell ⟨g, 1, none⟩ (.bool true)).heap[g]? = some (.cells #[v, .bool true] 80 (0, 0)) := heap_setCell_same _ _ _ _ _ _ (show (w.drewN nd).heap[g]? = _ from HROW.out)
    have HFIN : Hid (CStep w ((w.drewN nd).setCell ⟨g, 1, none⟩ (.bool true)) base g none) := Lib.hid ⟨⟨hb, v, b, true, HR2, fun W hW => HBS.out W ((only_below HON hb (by omega)).trans hW), rfl⟩, HON, by simp⟩
    clear HON HR2
    go_wp2
    go_ret
    exact ⟨_, rfl, fun W _ => BS.nil W, HFIN.out⟩
end Go.Proofs.Ytolfekbhlfjniaa

set_option linter.unusedVariables false
set_option linter.unusedSimpArgs false
namespace Go.Proofs.Ytolfekbhlfjniaa
open Go.ChangeShapes Go.WideShapes Go.ChangeAt Go.RowKit Go.Deep

theorem spot_none {w : World} {a : Addr} {v : Value} (h : w.cell? a = some v) : a.spot = none := by
  unfold World.cell? at h
  split at h
  · split at h
    · cases h
    · rename_i hn
      cases hs : a.spot with
      | none => rfl
      | some z => simp [hs] at hn
  · cases h
theorem u8_of {n : Int} (h : (Lit.int .u8 n).wf = true) : ((UInt8.ofNat n.toNat).toNat : Int) = n := by
  have : 0 ≤ n ∧ n ≤ 255 := by simpa [Lit.wf, IntKind.min, IntKind.max, IntKind.signed, IntKind.bits] using h
  rw [UInt8.toNat_ofNat']; omega

section
variable {H : Type} {enc : TypeId × Value → H} {W : World} {base : Nat} {held : Bool}
set_option maxRecDepth 10000 in
theorem open_bytes_cell {fuel : Nat} {cs : List Value} {x : DataW H × List MemPlace} (h : DataW.trod enc Try.prog W base (fun _ => true) held fuel 40 cs = some x) : ∃ v l, cs = [v] ∧ BS W v l := by
  rcases open_ints Try.underlying40 Try.underlying5 (by kernel_rfl) h with ⟨rfl, _⟩ | ⟨a, len, cap, zs, rfl, hb, hl, hm, hz, hx, hc, hw⟩
  · exact ⟨_, [], rfl, BS.nil W⟩
  · simp only [ite_true] at hz
    have hll : ((zs.take len).map fun z => UInt8.ofNat z.toNat).length = len := by simp; omega
    refine ⟨_, (zs.take len).map (fun z => UInt8.ofNat z.toNat), rfl, some a, cap, by rw [hll], by omega, hm, fun hne => ?_⟩
    have hpos : 0 < len := by
      rcases Nat.eq_zero_or_pos len with h0 | h0
      · subst h0; simp at hne
      · exact h0
    have h0 := hc 0 (by omega)
    have hs := spot_none h0
    have hblk := cell_blockW h0
    obtain ⟨b, o, sp⟩ := a
    have hs' : sp = none := by simpa [Addr.add] using hs
    subst hs'
    refine ⟨b, o, rfl, by simpa [Addr.add] using hblk, fun i x hx => ?_⟩
    have hi : i < len := by have := (List.getElem?_eq_some_iff.1 hx).1; omega
    have hci := hc i (by omega)
    rw [Go.WideShapes.add_plain] at hci
    rw [hci]
    have hzi : zs[i]? = some (zs.getD i 0) := by rw [List.getD_eq_getElem?_getD, List.getElem?_eq_getElem (by omega)]; rfl
    rw [List.getElem?_map, List.getElem?_take_of_lt hi, hzi] at hx
    injection hx with hx
    rw [← hx, u8_of (hw _ (List.mem_of_getElem? hzi))]

set_option maxRecDepth 10000 in
theorem open_bytes {v : Value} {r : Reach} {b0 : Nat} {d : DataW H} {ps : List MemPlace} (hv : Value.okWide Try.prog W r b0 40 v)
    (h : DataW.Trod enc Try.prog W base (fun _ => true) held 40 v d ps) : ∃ l : List UInt8, BS W v l := by
  have hcs : v.cells = #[v] := by
    simp only [Value.okWide, Try.underlying40] at hv
    cases v <;> first | rfl | simp [Cell.okWide, Cell.ok] at hv
  obtain ⟨fuel, hf⟩ := h
  rw [hcs] at hf
  obtain ⟨u, l, hu, hb⟩ := open_bytes_cell hf
  injection hu with hu _
  subst hu
  exact ⟨l, hb⟩
end
end Go.Proofs.Ytolfekbhlfjniaa
