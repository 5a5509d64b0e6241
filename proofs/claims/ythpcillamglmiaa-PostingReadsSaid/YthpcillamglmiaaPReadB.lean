/- Contracts of the posting reference: Key, Bytes, Of; and of posting.Of. -/
import Derived.Test.YthpcillamglmiaaPReadH
set_option linter.unusedVariables false
set_option linter.unusedSimpArgs false
namespace Go.Proofs.Ythpcillamglmiaa
open Go.RowKit

set_option maxRecDepth 4000 in
set_option maxHeartbeats 1000000 in
theorem rOf14_any (v : Value) (b : List UInt8) (w : World) (hv : BS w v b) :
    Calls Try.prog 17 #[v] w fun e w' => e = .returned (.tuple #[.agg (if b.length = 63 ∧ (pOf b).may = true then pOf b else zeroP).cells.toArray, .bool (decide (b.length = 63 ∧ (pOf b).may = true))]) ∧ Below w.heap.size w w' := by
  by_cases h63 : b.length = 63
  · obtain ⟨vv, hvv⟩ : ∃ vv : Int → Int → Int, vv = fun fr s => ((vAt b fr.toNat s.toNat : Nat) : Int) := ⟨_, rfl⟩
    have HAT : Hid (∀ (W : World) (fr s : Int), 0 ≤ fr → fr ≤ 63 → 0 ≤ s → BS W v b → Calls Try.prog 43 #[v, .int .i64 fr, .int .i64 s] W fun e w' => e = .returned (.int .u64 (vv fr s)) ∧ ∃ nd, w' = W.drewN nd) := Lib.hid (fun W fr s h0 h1 h2 h => by
      obtain ⟨F, rfl⟩ := Int.eq_ofNat_of_zero_le h0
      obtain ⟨S, rfl⟩ := Int.eq_ofNat_of_zero_le h2
      have := at14_any v b F (by omega) (S : Int) W h
      rw [vAt_num S (by omega)] at this
      rw [hvv]
      exact this)
    have hb0 : ∀ (o k : Nat), 0 ≤ vv (o : Int) (k : Int) ∧ vv (o : Int) (k : Int) < (256 ^ k : Nat) := fun o k => by
      rw [hvv]
      have := vAt_lt b o k
      exact ⟨by show (0 : Int) ≤ ((vAt b o k : Nat) : Int); omega, by show ((vAt b o k : Nat) : Int) < _; exact Int.ofNat_lt.2 this⟩
    have b1 : 0 ≤ vv 0 8 ∧ vv 0 8 < 18446744073709551616 := hb0 0 8
    have b2 : 0 ≤ vv 8 2 ∧ vv 8 2 < 65536 := hb0 8 2
    have b3 : 0 ≤ vv 10 4 ∧ vv 10 4 < 4294967296 := hb0 10 4
    have b4 : 0 ≤ vv 14 1 ∧ vv 14 1 < 256 := hb0 14 1
    have z2 : IntKind.i64.wrap (vv 8 2) = vv 8 2 := by rw [IntKind.wrap_i64]; omega
    have z3 : IntKind.i64.wrap (vv 10 4) = vv 10 4 := by rw [IntKind.wrap_i64]; omega
    have z4 : IntKind.i64.wrap (vv 14 1) = vv 14 1 := by rw [IntKind.wrap_i64]; omega
    have HP : Hid (pOf b = ⟨vv 10 4, vv 0 8, vv 8 2, vv 14 1, wrap64 (vv 15 8), wrap64 (vv 23 8), wrap64 (vv 31 8), wrap64 (vv 39 8), wrap64 (vv 47 8), wrap64 (vv 55 8)⟩) := Lib.hid (by rw [hvv]; rfl)
    clear hvv hb0
    have HV := Lib.hid hv
    have key : ∀ mm, (pOf b).may = mm → Calls Try.prog 17 #[v] w fun e w' => e = .returned (.tuple #[.agg (if mm = true then #[.int .i64 (vv 10 4), .int .u64 (vv 0 8), .int .i64 (vv 8 2), .int .i64 (vv 14 1), .int .i64 (wrap64 (vv 15 8)), .int .i64 (wrap64 (vv 23 8)), .int .i64 (wrap64 (vv 31 8)), .int .i64 (wrap64 (vv 39 8)), .int .i64 (wrap64 (vv 47 8)), .int .i64 (wrap64 (vv 55 8))] else #[.int .i64 0, .int .u64 0, .int .i64 0, .int .i64 0, .int .i64 0, .int .i64 0, .int .i64 0, .int .i64 0, .int .i64 0, .int .i64 0]), .bool mm]) ∧ Below w.heap.size w w' := by
      intro mm hmm
      rw [HP.out] at hmm
      have hmay : Post.may (vv 10 4) (vv 0 8) (vv 8 2) (vv 14 1) [wrap64 (vv 15 8), wrap64 (vv 23 8), wrap64 (vv 31 8), wrap64 (vv 39 8), wrap64 (vv 47 8), wrap64 (vv 55 8)] = mm := hmm
      have HMY := Lib.hid (fun W => rMay_any (vv 10 4) (vv 0 8) (vv 8 2) (vv 14 1) (wrap64 (vv 15 8)) (wrap64 (vv 23 8)) (wrap64 (vv 31 8)) (wrap64 (vv 39 8)) (wrap64 (vv 47 8)) (wrap64 (vv 55 8)) b1.1 (by omega) W)
      rw [hmay] at HMY
      clear hmm hmay
      obtain ⟨p, cap, rfl, g1, g2, -⟩ := hv
      rw [h63] at HV HAT g1 ⊢
      unfold maxLen at g2
      have HB0 := Lib.hid ((Below.refl w.heap.size w).alloc (Nat.le_refl _) (.cells #[.int .i64 0, .int .u64 0, .int .i64 0, .int .i64 0, .int .i64 0, .int .i64 0, .int .i64 0, .int .i64 0, .int .i64 0, .int .i64 0] 30))
      have hrow0 : (w.alloc (.cells #[.int .i64 0, .int .u64 0, .int .i64 0, .int .i64 0, .int .i64 0, .int .i64 0, .int .i64 0, .int .i64 0, .int .i64 0, .int .i64 0] 30)).heap[w.heap.size]? = _ := new_rowW _ _ _ rfl
      have HV0 := Lib.hid (HV.out.alloc (.cells #[.int .i64 0, .int .u64 0, .int .i64 0, .int .i64 0, .int .i64 0, .int .i64 0, .int .i64 0, .int .i64 0, .int .i64 0, .int .i64 0] 30))
      go_enter Try.func17, Try.ntmps17
      go_wp2_with fail
      generalize w.alloc (.cells #[.int .i64 0, .int .u64 0, .int .i64 0, .int .i64 0, .int .i64 0, .int .i64 0, .int .i64 0, .int .i64 0, .int .i64 0, .int .i64 0] 30) = W0 at *
      refine (HAT.out _ 0 8 (by decide) (by decide) (by decide) HV0.out).mono ?_
      rintro e w1 ⟨rfl, n1, rfl⟩
      go_wp2_with fail
      refine (HAT.out _ 8 2 (by decide) (by decide) (by decide) (HV0.out.drewN' _)).mono ?_
      rintro e w1 ⟨rfl, n2, rfl⟩
      go_wp2_with fail
      refine (HAT.out _ 10 4 (by decide) (by decide) (by decide) (HV0.out.drewN' _)).mono ?_
      rintro e w1 ⟨rfl, n3, rfl⟩
      go_wp2_with fail
      refine (HAT.out _ 14 1 (by decide) (by decide) (by decide) (HV0.out.drewN' _)).mono ?_
      rintro e w1 ⟨rfl, n4, rfl⟩
      have hrow4 : ((W0.drewN (n1 + n2 + n3)).drewN n4).heap[w.heap.size]? = _ := hrow0
      have HV4 := Lib.hid ((HV0.out.drewN' (n1 + n2 + n3)).drewN' n4)
      have HB4 : Hid (Below w.heap.size w ((W0.drewN (n1 + n2 + n3)).drewN n4)) := Lib.hid (HB0.out.trans ⟨rfl, rfl, rfl, Nat.le_refl _, fun _ _ => rfl⟩)
      clear hrow0
      generalize (W0.drewN (n1 + n2 + n3)).drewN n4 = W4 at *
      have hc4 := fun j => cell_of_row W4 _ j _ _ _ hrow4
      have hf4 := fun j => frozen_of_row W4 _ j _ _ hrow4
      go_wp2_with fail
      have HBA := Lib.hid (HB4.out.alloc HB4.out.size (.cells #[.int .i64 (vv 10 4), .int .u64 (vv 0 8), .int .i64 (vv 8 2), .int .i64 (vv 14 1), .int .i64 0, .int .i64 0, .int .i64 0, .int .i64 0, .int .i64 0, .int .i64 0] 30))
      have hrowA : (W4.alloc (.cells #[.int .i64 (vv 10 4), .int .u64 (vv 0 8), .int .i64 (vv 8 2), .int .i64 (vv 14 1), .int .i64 0, .int .i64 0, .int .i64 0, .int .i64 0, .int .i64 0, .int .i64 0] 30)).heap[W4.heap.size]? = _ := new_rowW _ _ _ rfl
      have hbx := HB4.out.size
      have hbx2 : w.heap.size < W4.heap.size := block_lt hrow4
      have HRZ0 := Lib.hid (row_allocW hrow4 (.cells #[.int .i64 (vv 10 4), .int .u64 (vv 0 8), .int .i64 (vv 8 2), .int .i64 (vv 14 1), .int .i64 0, .int .i64 0, .int .i64 0, .int .i64 0, .int .i64 0, .int .i64 0] 30))
      clear hc4 hf4 hrow4 HV4
      generalize W4.alloc (.cells #[.int .i64 (vv 10 4), .int .u64 (vv 0 8), .int .i64 (vv 8 2), .int .i64 (vv 14 1), .int .i64 0, .int .i64 0, .int .i64 0, .int .i64 0, .int .i64 0, .int .i64 0] 30) = A0 at *
      generalize W4.heap.size = bx at *
      have HROA0 := Lib.hid hrowA
      clear hrowA HB4
      have HA0 := HBA
      refine (HAT.out _ 15 8 (by decide) (by decide) (by decide) (HV.out.below HA0.out)).mono ?_
      rintro e w1 ⟨rfl, m0, rfl⟩
      have hrow0 : (A0.drewN m0).heap[bx]? = _ := HROA0.out
      have HX0 : Hid (Below w.heap.size w (A0.drewN m0)) := Lib.hid (HA0.out.trans ⟨rfl, rfl, rfl, Nat.le_refl _, fun _ _ => rfl⟩)
      have HRX0 : Hid ((A0.drewN m0).heap[w.heap.size]? = _) := Lib.hid HRZ0.out
      generalize A0.drewN m0 = X0 at *
      have hc0 := fun j => cell_of_row X0 bx j _ _ _ hrow0
      have hf0 := fun j => frozen_of_row X0 bx j _ _ hrow0
      have HA1 := Lib.hid (HX0.out.setCell (p := ⟨bx, 4, none⟩) hbx (.int .i64 (wrap64 (vv 15 8))))
      have hrowS0 : (X0.setCell ⟨bx, 4, none⟩ (.int .i64 (wrap64 (vv 15 8)))).heap[bx]? = some (.cells #[.int .i64 (vv 10 4), .int .u64 (vv 0 8), .int .i64 (vv 8 2), .int .i64 (vv 14 1), .int .i64 (wrap64 (vv 15 8)), .int .i64 0, .int .i64 0, .int .i64 0, .int .i64 0, .int .i64 0] 30 (0, 0)) := heap_setCell_same _ _ _ _ _ _ hrow0
      have HROA1 := Lib.hid hrowS0
      have HRZ1 := Lib.hid ((heap_setCell_other X0 ⟨bx, 4, none⟩ w.heap.size (.int .i64 (wrap64 (vv 15 8))) (by show w.heap.size ≠ bx; omega)).trans HRX0.out)
      clear hrow0 hrowS0
      go_wp2_with fail
      clear hc0 hf0
      generalize X0.setCell ⟨bx, 4, none⟩ (.int .i64 (wrap64 (vv 15 8))) = A1 at *
      refine (HAT.out _ 23 8 (by decide) (by decide) (by decide) (HV.out.below HA1.out)).mono ?_
      rintro e w1 ⟨rfl, m1, rfl⟩
      have hrow1 : (A1.drewN m1).heap[bx]? = _ := HROA1.out
      have HX1 : Hid (Below w.heap.size w (A1.drewN m1)) := Lib.hid (HA1.out.trans ⟨rfl, rfl, rfl, Nat.le_refl _, fun _ _ => rfl⟩)
      have HRX1 : Hid ((A1.drewN m1).heap[w.heap.size]? = _) := Lib.hid HRZ1.out
      generalize A1.drewN m1 = X1 at *
      have hc1 := fun j => cell_of_row X1 bx j _ _ _ hrow1
      have hf1 := fun j => frozen_of_row X1 bx j _ _ hrow1
      have HA2 := Lib.hid (HX1.out.setCell (p := ⟨bx, 5, none⟩) hbx (.int .i64 (wrap64 (vv 23 8))))
      have hrowS1 : (X1.setCell ⟨bx, 5, none⟩ (.int .i64 (wrap64 (vv 23 8)))).heap[bx]? = some (.cells #[.int .i64 (vv 10 4), .int .u64 (vv 0 8), .int .i64 (vv 8 2), .int .i64 (vv 14 1), .int .i64 (wrap64 (vv 15 8)), .int .i64 (wrap64 (vv 23 8)), .int .i64 0, .int .i64 0, .int .i64 0, .int .i64 0] 30 (0, 0)) := heap_setCell_same _ _ _ _ _ _ hrow1
      have HROA2 := Lib.hid hrowS1
      have HRZ2 := Lib.hid ((heap_setCell_other X1 ⟨bx, 5, none⟩ w.heap.size (.int .i64 (wrap64 (vv 23 8))) (by show w.heap.size ≠ bx; omega)).trans HRX1.out)
      clear hrow1 hrowS1
      go_wp2_with fail
      clear hc1 hf1
      generalize X1.setCell ⟨bx, 5, none⟩ (.int .i64 (wrap64 (vv 23 8))) = A2 at *
      refine (HAT.out _ 31 8 (by decide) (by decide) (by decide) (HV.out.below HA2.out)).mono ?_
      rintro e w1 ⟨rfl, m2, rfl⟩
      have hrow2 : (A2.drewN m2).heap[bx]? = _ := HROA2.out
      have HX2 : Hid (Below w.heap.size w (A2.drewN m2)) := Lib.hid (HA2.out.trans ⟨rfl, rfl, rfl, Nat.le_refl _, fun _ _ => rfl⟩)
      have HRX2 : Hid ((A2.drewN m2).heap[w.heap.size]? = _) := Lib.hid HRZ2.out
      generalize A2.drewN m2 = X2 at *
      have hc2 := fun j => cell_of_row X2 bx j _ _ _ hrow2
      have hf2 := fun j => frozen_of_row X2 bx j _ _ hrow2
      have HA3 := Lib.hid (HX2.out.setCell (p := ⟨bx, 6, none⟩) hbx (.int .i64 (wrap64 (vv 31 8))))
      have hrowS2 : (X2.setCell ⟨bx, 6, none⟩ (.int .i64 (wrap64 (vv 31 8)))).heap[bx]? = some (.cells #[.int .i64 (vv 10 4), .int .u64 (vv 0 8), .int .i64 (vv 8 2), .int .i64 (vv 14 1), .int .i64 (wrap64 (vv 15 8)), .int .i64 (wrap64 (vv 23 8)), .int .i64 (wrap64 (vv 31 8)), .int .i64 0, .int .i64 0, .int .i64 0] 30 (0, 0)) := heap_setCell_same _ _ _ _ _ _ hrow2
      have HROA3 := Lib.hid hrowS2
      have HRZ3 := Lib.hid ((heap_setCell_other X2 ⟨bx, 6, none⟩ w.heap.size (.int .i64 (wrap64 (vv 31 8))) (by show w.heap.size ≠ bx; omega)).trans HRX2.out)
      clear hrow2 hrowS2
      go_wp2_with fail
      clear hc2 hf2
      generalize X2.setCell ⟨bx, 6, none⟩ (.int .i64 (wrap64 (vv 31 8))) = A3 at *
      refine (HAT.out _ 39 8 (by decide) (by decide) (by decide) (HV.out.below HA3.out)).mono ?_
      rintro e w1 ⟨rfl, m3, rfl⟩
      have hrow3 : (A3.drewN m3).heap[bx]? = _ := HROA3.out
      have HX3 : Hid (Below w.heap.size w (A3.drewN m3)) := Lib.hid (HA3.out.trans ⟨rfl, rfl, rfl, Nat.le_refl _, fun _ _ => rfl⟩)
      have HRX3 : Hid ((A3.drewN m3).heap[w.heap.size]? = _) := Lib.hid HRZ3.out
      generalize A3.drewN m3 = X3 at *
      have hc3 := fun j => cell_of_row X3 bx j _ _ _ hrow3
      have hf3 := fun j => frozen_of_row X3 bx j _ _ hrow3
      have HA4 := Lib.hid (HX3.out.setCell (p := ⟨bx, 7, none⟩) hbx (.int .i64 (wrap64 (vv 39 8))))
      have hrowS3 : (X3.setCell ⟨bx, 7, none⟩ (.int .i64 (wrap64 (vv 39 8)))).heap[bx]? = some (.cells #[.int .i64 (vv 10 4), .int .u64 (vv 0 8), .int .i64 (vv 8 2), .int .i64 (vv 14 1), .int .i64 (wrap64 (vv 15 8)), .int .i64 (wrap64 (vv 23 8)), .int .i64 (wrap64 (vv 31 8)), .int .i64 (wrap64 (vv 39 8)), .int .i64 0, .int .i64 0] 30 (0, 0)) := heap_setCell_same _ _ _ _ _ _ hrow3
      have HROA4 := Lib.hid hrowS3
      have HRZ4 := Lib.hid ((heap_setCell_other X3 ⟨bx, 7, none⟩ w.heap.size (.int .i64 (wrap64 (vv 39 8))) (by show w.heap.size ≠ bx; omega)).trans HRX3.out)
      clear hrow3 hrowS3
      go_wp2_with fail
      clear hc3 hf3
      generalize X3.setCell ⟨bx, 7, none⟩ (.int .i64 (wrap64 (vv 39 8))) = A4 at *
      refine (HAT.out _ 47 8 (by decide) (by decide) (by decide) (HV.out.below HA4.out)).mono ?_
      rintro e w1 ⟨rfl, m4, rfl⟩
      have hrow4 : (A4.drewN m4).heap[bx]? = _ := HROA4.out
      have HX4 : Hid (Below w.heap.size w (A4.drewN m4)) := Lib.hid (HA4.out.trans ⟨rfl, rfl, rfl, Nat.le_refl _, fun _ _ => rfl⟩)
      have HRX4 : Hid ((A4.drewN m4).heap[w.heap.size]? = _) := Lib.hid HRZ4.out
      generalize A4.drewN m4 = X4 at *
      have hc4 := fun j => cell_of_row X4 bx j _ _ _ hrow4
      have hf4 := fun j => frozen_of_row X4 bx j _ _ hrow4
      have HA5 := Lib.hid (HX4.out.setCell (p := ⟨bx, 8, none⟩) hbx (.int .i64 (wrap64 (vv 47 8))))
      have hrowS4 : (X4.setCell ⟨bx, 8, none⟩ (.int .i64 (wrap64 (vv 47 8)))).heap[bx]? = some (.cells #[.int .i64 (vv 10 4), .int .u64 (vv 0 8), .int .i64 (vv 8 2), .int .i64 (vv 14 1), .int .i64 (wrap64 (vv 15 8)), .int .i64 (wrap64 (vv 23 8)), .int .i64 (wrap64 (vv 31 8)), .int .i64 (wrap64 (vv 39 8)), .int .i64 (wrap64 (vv 47 8)), .int .i64 0] 30 (0, 0)) := heap_setCell_same _ _ _ _ _ _ hrow4
      have HROA5 := Lib.hid hrowS4
      have HRZ5 := Lib.hid ((heap_setCell_other X4 ⟨bx, 8, none⟩ w.heap.size (.int .i64 (wrap64 (vv 47 8))) (by show w.heap.size ≠ bx; omega)).trans HRX4.out)
      clear hrow4 hrowS4
      go_wp2_with fail
      clear hc4 hf4
      generalize X4.setCell ⟨bx, 8, none⟩ (.int .i64 (wrap64 (vv 47 8))) = A5 at *
      refine (HAT.out _ 55 8 (by decide) (by decide) (by decide) (HV.out.below HA5.out)).mono ?_
      rintro e w1 ⟨rfl, m5, rfl⟩
      have hrow5 : (A5.drewN m5).heap[bx]? = _ := HROA5.out
      have HX5 : Hid (Below w.heap.size w (A5.drewN m5)) := Lib.hid (HA5.out.trans ⟨rfl, rfl, rfl, Nat.le_refl _, fun _ _ => rfl⟩)
      have HRX5 : Hid ((A5.drewN m5).heap[w.heap.size]? = _) := Lib.hid HRZ5.out
      generalize A5.drewN m5 = X5 at *
      have hc5 := fun j => cell_of_row X5 bx j _ _ _ hrow5
      have hf5 := fun j => frozen_of_row X5 bx j _ _ hrow5
      have HA6 := Lib.hid (HX5.out.setCell (p := ⟨bx, 9, none⟩) hbx (.int .i64 (wrap64 (vv 55 8))))
      have hrowS5 : (X5.setCell ⟨bx, 9, none⟩ (.int .i64 (wrap64 (vv 55 8)))).heap[bx]? = some (.cells #[.int .i64 (vv 10 4), .int .u64 (vv 0 8), .int .i64 (vv 8 2), .int .i64 (vv 14 1), .int .i64 (wrap64 (vv 15 8)), .int .i64 (wrap64 (vv 23 8)), .int .i64 (wrap64 (vv 31 8)), .int .i64 (wrap64 (vv 39 8)), .int .i64 (wrap64 (vv 47 8)), .int .i64 (wrap64 (vv 55 8))] 30 (0, 0)) := heap_setCell_same _ _ _ _ _ _ hrow5
      have HROA6 := Lib.hid hrowS5
      have HRZ6 := Lib.hid ((heap_setCell_other X5 ⟨bx, 9, none⟩ w.heap.size (.int .i64 (wrap64 (vv 55 8))) (by show w.heap.size ≠ bx; omega)).trans HRX5.out)
      clear hrow5 hrowS5
      have hcF : ∀ j, (X5.setCell ⟨bx, 9, none⟩ (.int .i64 (wrap64 (vv 55 8)))).cell? ⟨bx, j, none⟩ = (#[.int .i64 (vv 10 4), .int .u64 (vv 0 8), .int .i64 (vv 8 2), .int .i64 (vv 14 1), .int .i64 (wrap64 (vv 15 8)), .int .i64 (wrap64 (vv 23 8)), .int .i64 (wrap64 (vv 31 8)), .int .i64 (wrap64 (vv 39 8)), .int .i64 (wrap64 (vv 47 8)), .int .i64 (wrap64 (vv 55 8))] : Array Value)[j]? := fun j => cell_of_row _ bx j _ _ _ HROA6.out
      go_wp2_with fail
      clear hc5 hf5 hcF
      generalize X5.setCell ⟨bx, 9, none⟩ (.int .i64 (wrap64 (vv 55 8))) = A6 at *
      refine (HMY.out _).mono ?_
      rintro e wM ⟨rfl, hbM⟩
      have hrowM : wM.heap[bx]? = _ := (hbM.block bx (block_lt HROA6.out)).trans HROA6.out
      have hcM := fun j => cell_of_row wM bx j _ _ _ hrowM
      have HBM := Lib.hid (HA6.out.trans (hbM.mono HA6.out.size))
      have hrz := (hbM.block w.heap.size (block_lt HRZ6.out)).trans HRZ6.out
      have HRZ := Lib.hid hrz
      have hcz := fun j => cell_of_row wM w.heap.size j _ _ _ hrz
      have hfz := fun j => frozen_of_row wM w.heap.size j _ _ hrz
      clear hrowM hbM hrz
      cases mm
      · go_wp2
        have hrow := ten_row HRZ.out (.int .i64 0) (.int .u64 0) (.int .i64 0) (.int .i64 0) (.int .i64 0) (.int .i64 0) (.int .i64 0) (.int .i64 0) (.int .i64 0) (.int .i64 0)
        refine bodyPost_ret (v := .tuple #[.agg #[.int .i64 0, .int .u64 0, .int .i64 0, .int .i64 0, .int .i64 0, .int .i64 0, .int .i64 0, .int .i64 0, .int .i64 0, .int .i64 0], .bool false]) (by simp [results, Try.results17, go_sem, fun i => cell_of_row _ _ i _ _ _ hrow]) rfl ⟨rfl, ?_⟩
        exact ten_below HBM.out (by simp) _ _ _ _ _ _ _ _ _ _
      · go_wp2
        have hrow := ten_row HRZ.out (.int .i64 (vv 10 4)) (.int .u64 (vv 0 8)) (.int .i64 (vv 8 2)) (.int .i64 (vv 14 1)) (.int .i64 (wrap64 (vv 15 8))) (.int .i64 (wrap64 (vv 23 8))) (.int .i64 (wrap64 (vv 31 8))) (.int .i64 (wrap64 (vv 39 8))) (.int .i64 (wrap64 (vv 47 8))) (.int .i64 (wrap64 (vv 55 8)))
        refine bodyPost_ret (v := .tuple #[.agg #[.int .i64 (vv 10 4), .int .u64 (vv 0 8), .int .i64 (vv 8 2), .int .i64 (vv 14 1), .int .i64 (wrap64 (vv 15 8)), .int .i64 (wrap64 (vv 23 8)), .int .i64 (wrap64 (vv 31 8)), .int .i64 (wrap64 (vv 39 8)), .int .i64 (wrap64 (vv 47 8)), .int .i64 (wrap64 (vv 55 8))], .bool true]) (by simp [results, Try.results17, go_sem, fun i => cell_of_row _ _ i _ _ _ hrow]) rfl ⟨rfl, ?_⟩
        exact ten_below HBM.out (by simp) _ _ _ _ _ _ _ _ _ _
    refine (key _ rfl).mono fun e w' ⟨he, hb⟩ => ⟨?_, hb⟩
    rw [he]
    cases hm : (pOf b).may with
    | true => rw [if_pos rfl, if_pos ⟨h63, rfl⟩, HP.out]; simp [h63, Pst.cells]
    | false => rw [if_neg (by decide), if_neg (fun h => by cases h.2)]; simp [zeroP, Pst.cells]
  · have HV := Lib.hid hv
    have e1 : (if b.length = 63 ∧ (pOf b).may = true then pOf b else zeroP) = zeroP := if_neg (fun h => h63 h.1)
    have e2 : decide (b.length = 63 ∧ (pOf b).may = true) = false := by simp [h63]
    rw [e1, e2, show zeroP.cells.toArray = (#[.int .i64 0, .int .u64 0, .int .i64 0, .int .i64 0, .int .i64 0, .int .i64 0, .int .i64 0, .int .i64 0, .int .i64 0, .int .i64 0] : Array Value) from rfl]
    obtain ⟨p, cap, rfl, g1, g2, -⟩ := hv
    unfold maxLen at g2
    clear e1 e2
    generalize b.length = m at *
    go_enter Try.func17, Try.ntmps17
    have hbz := (Below.refl w.heap.size w).alloc (Nat.le_refl _) (.cells #[.int .i64 0, .int .u64 0, .int .i64 0, .int .i64 0, .int .i64 0, .int .i64 0, .int .i64 0, .int .i64 0, .int .i64 0, .int .i64 0] 30)
    have hrz : (w.alloc (.cells #[.int .i64 0, .int .u64 0, .int .i64 0, .int .i64 0, .int .i64 0, .int .i64 0, .int .i64 0, .int .i64 0, .int .i64 0, .int .i64 0] 30)).heap[w.heap.size]? = _ := new_rowW _ _ _ rfl
    go_wp2
    have hrow := ten_row hrz (.int .i64 0) (.int .u64 0) (.int .i64 0) (.int .i64 0) (.int .i64 0) (.int .i64 0) (.int .i64 0) (.int .i64 0) (.int .i64 0) (.int .i64 0)
    refine bodyPost_ret (v := .tuple #[.agg #[.int .i64 0, .int .u64 0, .int .i64 0, .int .i64 0, .int .i64 0, .int .i64 0, .int .i64 0, .int .i64 0, .int .i64 0, .int .i64 0], .bool false]) (by simp [results, Try.results17, go_sem, fun i => cell_of_row _ _ i _ _ _ hrow]) rfl ⟨rfl, ?_⟩
    exact (Below.refl _ _).alloc (Nat.le_refl _) _
end Go.Proofs.Ythpcillamglmiaa
