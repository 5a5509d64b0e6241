/- Contracts of the reference's Check, Parts, MayStock, In, and of the program's MayStock, In. -/
import Derived.Test.YtellhmbebimenaaDoorLr18

set_option linter.unusedSimpArgs false
set_option linter.unusedVariables false
namespace Go.Proofs.YtellhmbebimenaaDoor
open Go.RowKit

/-- old cells read as before behind a call that only makes memory -/
theorem bcell {W w1 : World} (hb : Below W.heap.size W w1) : (∀ b o, b < W.heap.size → w1.cell? ⟨b, o, none⟩ = W.cell? ⟨b, o, none⟩) ∧ (∀ b o, b < W.heap.size → w1.frozen? ⟨b, o, none⟩ = W.frozen? ⟨b, o, none⟩) :=
  ⟨fun b o h => hb.cell (p := ⟨b, o, none⟩) h, fun b o h => hb.frozen (p := ⟨b, o, none⟩) h⟩
theorem div10 (N : Nat) : ((N / 10000000000 : Nat) : Int) = (N : Int) / 10 / 1000000000 := by omega
theorem digits_size (n : Nat) (h : n ≤ 18446744073709551615) : (⟨(Dec.digits n).toArray⟩ : ByteArray).size ≤ 20 := by
  rw [size_string]; exact Dec.digits_length_le n 19 (by omega)
theorem toList_mk (l : List UInt8) : (⟨l.toArray⟩ : ByteArray).data.toList = l := by simp

set_option maxHeartbeats 400000 in
theorem rCheck_any (n : Int) (h0 : 0 ≤ n) (h1 : n ≤ 18446744073709551615) (w : World) :
    Calls Tryd.prog 65 #[.int .u64 n] w fun e w' => e = .returned (.int .i64 (Num.check n)) ∧ Below w.heap.size w w' := by
  obtain ⟨N, rfl⟩ := Int.eq_ofNat_of_zero_le h0
  have hE := Num.ofE_digits N
  have hsz := digits_size N (by omega)
  have hf := Num.check_far N
  have h4 := Num.check_ne4 N
  go_enter Tryd.func65, Tryd.ntmps65
  have HE := Lib.hid hE; clear hE
  have HF := Lib.hid hf; clear hf
  have H4 := Lib.hid h4; clear h4
  go_wp2_with fail
  refine (rdigits_any _ h0 h1 _).mono ?_
  rintro e w1 ⟨rfl, hb1⟩
  rw [show ((N : Nat) : Int).toNat = N from by omega]
  go_wp2_with fail
  refine (rOf_any _ (by unfold maxLen; omega) _).mono ?_
  rintro e w2 ⟨rfl, m, rfl⟩
  rw [toList_mk, HE.out]
  by_cases hl : (Dec.digits N).length = 13
  · rw [if_pos hl]
    have q := bne_iff_ne.2 H4.out
    have HL := Lib.hid hl; clear hl
    go_wp2
    go_ret
    exact ⟨rfl, below_drewN hb1 m⟩
  · rw [if_neg hl]
    have HL := Lib.hid (HF.out hl); clear hl
    go_wp2
    go_ret
    exact ⟨ret_int (by rw [HL.out]), below_drewN hb1 m⟩

end Go.Proofs.YtellhmbebimenaaDoor
