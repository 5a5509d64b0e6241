/- Contracts of the reference's Check, Parts, MayStock, In, and of the program's MayStock, In. -/
import Derived.Test.YtmadkfahkbdibaaNumD
set_option linter.unusedSimpArgs false
set_option linter.unusedVariables false
namespace Go.Proofs.Ytmadkfahkbdibaa
open Go.RowKit

/-- old cells read as before behind a call that only makes memory -/
theorem bcell {W w1 : World} (hb : Below W.heap.size W w1) : (∀ b o, b < W.heap.size → w1.cell? ⟨b, o, none⟩ = W.cell? ⟨b, o, none⟩) ∧ (∀ b o, b < W.heap.size → w1.frozen? ⟨b, o, none⟩ = W.frozen? ⟨b, o, none⟩) :=
  ⟨fun b o h => hb.cell (p := ⟨b, o, none⟩) h, fun b o h => hb.frozen (p := ⟨b, o, none⟩) h⟩
theorem div10 (N : Nat) : ((N / 10000000000 : Nat) : Int) = (N : Int) / 10 / 1000000000 := by omega
theorem digits_size (n : Nat) (h : n ≤ 18446744073709551615) : (⟨(Dec.digits n).toArray⟩ : ByteArray).size ≤ 20 := by
  rw [size_string]; exact Dec.digits_length_le n 19 (by omega)
theorem toList_mk (l : List UInt8) : (⟨l.toArray⟩ : ByteArray).data.toList = l := by simp

set_option maxHeartbeats 400000 in
theorem rCheck_any (n : Int) (h0 : 0 ≤ n) (h1 : n ≤ 18446744073709551615) (w : World) :
    Calls Try.prog 124 #[.int .u64 n] w fun e w' => e = .returned (.int .i64 (Num.check n)) ∧ Below w.heap.size w w' := by
  obtain ⟨N, rfl⟩ := Int.eq_ofNat_of_zero_le h0
  have hE := Num.ofE_digits N
  have hsz := digits_size N (by omega)
  have hf := Num.check_far N
  have h4 := Num.check_ne4 N
  go_enter Try.func124, Try.ntmps124
  have HE := Lib.hid hE; clear hE
  have HF := Lib.hid hf; clear hf
  have H4 := Lib.hid h4; clear h4
  go_wp2_with fail
  refine (rdigits_any _ h0 h1 _).mono ?_
  rintro e w1 ⟨rfl, hb1⟩
  rw [show ((N : Nat) : Int).toNat = N from by omega]
  go_wp2_with fail
  refine (rOf_any _ (by unfold maxLen; omega) _).mono ?_
  rintro e w2 ⟨rfl, m, rfl⟩
  rw [toList_mk, HE.out]
  by_cases hl : (Dec.digits N).length = 13
  · rw [if_pos hl]
    have q := bne_iff_ne.2 H4.out
    have HL := Lib.hid hl; clear hl
    go_wp2
    go_ret
    exact ⟨rfl, below_drewN hb1 m⟩
  · rw [if_neg hl]
    have HL := Lib.hid (HF.out hl); clear hl
    go_wp2
    go_ret
    exact ⟨ret_int (by rw [HL.out]), below_drewN hb1 m⟩

set_option maxHeartbeats 400000 in
theorem rParts_any (n : Int) (h0 : 0 ≤ n) (h1 : n ≤ 18446744073709551615) (w : World) :
    Calls Try.prog 117 #[.int .u64 n] w fun e w' => e = .returned (.tuple #[.int .i64 (Num.carr n), .int .i64 (Num.seri n)]) ∧ Below w.heap.size w w' := by
  obtain ⟨N, rfl⟩ := Int.eq_ofNat_of_zero_le h0
  by_cases hc : Num.check N = 0
  · have hb := Num.check_zero hc
    have e1 : Num.carr N = N / 10 / 1000000000 := by unfold Num.carr; rw [if_pos hc]
    have e2 : Num.seri N = N / 10 % 1000000000 := by unfold Num.seri; rw [if_pos hc]
    rw [e1, e2]; clear e1 e2
    have HT := Lib.hid (Num.digits_text (n := N) (by omega) (by omega))
    have hsz := digits_size N (by omega)
    have hs3 : 13 ≤ (⟨(Dec.digits N).toArray⟩ : ByteArray).size := by rw [size_string, Num.digits13 (by omega) (by omega)]; omega
    have hcb : (Num.check N != 0) = false := by rw [hc]; rfl
    have HC := Lib.hid hc; clear hc
    have HB := Lib.hid hb; clear hb
    go_enter Try.func117, Try.ntmps117
    go_wp2_with fail
    refine (rCheck_any _ h0 h1 _).mono ?_
    rintro e w1 ⟨rfl, hb1⟩
    go_wp2_with fail
    refine (rdigits_any _ h0 h1 _).mono ?_
    rintro e w2 ⟨rfl, hb2⟩
    rw [show ((N : Nat) : Int).toNat = N from by omega]
    generalize hs : (⟨(Dec.digits N).toArray⟩ : ByteArray) = s at *
    have HS : Hid (s.data.toList = Dec.text N 13) := Lib.hid (by rw [← hs, toList_mk, HT.out])
    clear hs
    have x1 : (s.extract 0 3).data.toList = Dec.text (N / 10000000000) 3 := by
      have : (s.extract 0 3).data.toList = s.data.toList.take 3 := by simp [ByteArray.data_extract]
      rw [this, HS.out]; exact Dec.text_take N 3 10
    have y1 : s.data.toList.take 3 = Dec.text (N / 10000000000) 3 := by rw [HS.out]; exact Dec.text_take N 3 10
    have y2 : (s.data.toList.drop 3).take 9 = Dec.text (N / 10) 9 := by
      rw [HS.out, Dec.text_drop N 3 10]; exact Dec.text_take N 9 1
    have x2 : (s.extract 3 12).data.toList = Dec.text (N / 10) 9 := by
      have : (s.extract 3 12).data.toList = (s.data.toList.drop 3).take 9 := by simp [ByteArray.data_extract]
      rw [this, y2]
    have v1 : (Dec.val (s.data.toList.take 3) : Int) = N / 10 / 1000000000 := by
      rw [y1, Dec.text_val, Nat.mod_eq_of_lt (by have := HB.out; omega)]; exact div10 N
    have v2 : (Dec.val ((s.data.toList.drop 3).take 9) : Int) = N / 10 % 1000000000 := by rw [y2, Dec.text_val]; omega
    have a1 : (s.extract 0 3).data.toList.all Dec.isDig = true := by rw [x1]; exact Dec.text_all _ _
    have a2 : (s.extract 3 12).data.toList.all Dec.isDig = true := by rw [x2]; exact Dec.text_all _ _
    have A1 := Lib.hid a1; clear a1
    have A2 := Lib.hid a2; clear a2
    have V1 := Lib.hid v1; clear v1
    have V2 := Lib.hid v2; clear v2
    clear x1 x2 y1 y2
    go_wp2_with fail
    go_quiet ((go_at_call 146; exact quiet_left (rworth_any _ (by first | exact A1.out | exact A2.out) (by simp; omega) _)))
    go_wp2
    go_ret2
    refine ⟨ret_pair' ⟨?_, ?_⟩, below_drewN (hb1.trans (hb2.mono hb1.size)) _⟩
    · rw [V1.out]; unfold wrap64; omega
    · rw [V2.out]; unfold wrap64; omega
  · have e1 : Num.carr N = 0 := by unfold Num.carr; rw [if_neg hc]
    have e2 : Num.seri N = 0 := by unfold Num.seri; rw [if_neg hc]
    rw [e1, e2]; clear e1 e2
    have hcb : (Num.check N != 0) = true := bne_iff_ne.2 hc
    clear hc
    go_enter Try.func117, Try.ntmps117
    go_wp2_with fail
    refine (rCheck_any _ h0 h1 _).mono ?_
    rintro e w1 ⟨rfl, hb1⟩
    go_wp2
    go_ret2
    exact ⟨rfl, hb1⟩