/- A posting's bytes: they tell it; contracts of Bytes (posting, couponref14) at a posting that may be. -/
import Derived.Test.YtellhmbebimenaaDoorPb41
import Derived.Test.YtellhmbebimenaaDoorPb43

set_option linter.unusedVariables false
set_option linter.unusedSimpArgs false
namespace Go.Proofs.YtellhmbebimenaaDoor
open Go.RowKit

theorem vAt_at (b x z : List UInt8) (n k o : Nat) (hk : k = 1 ∨ k = 2 ∨ k = 4 ∨ k = 8) (hn : n < 256 ^ k) (hb : b = x ++ (Wire.be n k ++ z)) (ho : x.length = o) : vAt b o k = n := by
  subst hb ho
  have hl : x.length + k ≤ (x ++ (Wire.be n k ++ z)).length := by simp only [List.length_append, Wire.be_length]; omega
  have h := be_vAt hk hl
  rw [List.drop_left, List.take_left' (Wire.be_length n k)] at h
  have e1 := congrArg Wire.ofBe h
  rwa [Wire.ofBe_be, Wire.ofBe_be, Nat.mod_eq_of_lt hn, Nat.mod_eq_of_lt (vAt_lt _ _ _)] at e1
theorem encP_length (p : Pst) : (encP p).length = 63 := by
  unfold encP encH encA Pst.am
  simp only [List.flatMap_cons, List.flatMap_nil, List.append_nil, List.length_append, Wire.be_length]
theorem in_i64 {n : Int} (h : Lit.wf (.int .i64 n)) : -9223372036854775808 ≤ n ∧ n ≤ 9223372036854775807 := by
  simpa [Lit.wf, IntKind.min, IntKind.max, IntKind.signed, IntKind.bits] using h
theorem in_u64 {n : Int} (h : Lit.wf (.int .u64 n)) : 0 ≤ n ∧ n ≤ 18446744073709551615 := by
  simpa [Lit.wf, IntKind.min, IntKind.max, IntKind.signed, IntKind.bits] using h
theorem wrap_u64 {n : Int} (h : Lit.wf (.int .i64 n)) : wrap64 ((u64 n : Nat) : Int) = n := by
  have := in_i64 h
  unfold wrap64 u64; omega
theorem u64_small {n : Int} (h0 : 0 ≤ n) (h1 : n ≤ 18446744073709551615) : ((u64 n : Nat) : Int) = n := by unfold u64; omega
theorem may_in {p : Pst} (hm : p.may = true) : (1 ≤ p.k ∧ p.k ≤ 5) ∧ (0 ≤ p.d ∧ p.d ≤ 1000000) ∧ (1 ≤ p.s ∧ p.s ≤ 200) := by
  unfold Pst.may Post.may at hm
  simp only [Bool.and_eq_true, decide_eq_true_eq] at hm
  obtain ⟨⟨⟨⟨⟨⟨⟨h1, h2⟩, h3⟩, h4⟩, h5⟩, h6⟩, h7⟩, h8⟩ := hm
  exact ⟨⟨h1, h2⟩, ⟨h4, h5⟩, ⟨h6, h7⟩⟩
theorem pOf_encP {p : Pst} (hw : p.wf) (hm : p.may = true) : pOf (encP p) = p := by
  obtain ⟨hk, hd, hs⟩ := may_in hm
  obtain ⟨w0, w1, w2, w3, w4, w5, w6, w7, w8, w9⟩ := hw
  have ht := in_u64 w1
  have e : encP p = Wire.be (u64 p.t) 8 ++ (Wire.be (u64 p.s) 2 ++ (Wire.be (u64 p.d) 4 ++ (Wire.be (u64 p.k) 1 ++ (Wire.be (u64 p.a0) 8 ++ (Wire.be (u64 p.a1) 8 ++ (Wire.be (u64 p.a2) 8 ++ (Wire.be (u64 p.a3) 8 ++ (Wire.be (u64 p.a4) 8 ++ Wire.be (u64 p.a5) 8)))))))) := by
    unfold encP encH encA Pst.am
    simp only [List.flatMap_cons, List.flatMap_nil, List.append_nil, List.append_assoc]
  have l := fun n => u64_lt n
  have v1 : vAt (encP p) 0 8 = u64 p.t := vAt_at _ [] _ _ 8 0 (by decide) (Nat.lt_of_lt_of_le (l _) (by decide)) e rfl
  have v2 : vAt (encP p) 8 2 = u64 p.s := vAt_at _ (Wire.be (u64 p.t) 8) _ _ 2 8 (by decide) (by have := u64_small (n := p.s) (by omega) (by omega); show u64 p.s < 65536; omega) e (by simp only [List.length_append, Wire.be_length])
  have v3 : vAt (encP p) 10 4 = u64 p.d := vAt_at _ (Wire.be (u64 p.t) 8 ++ Wire.be (u64 p.s) 2) _ _ 4 10 (by decide) (by have := u64_small (n := p.d) (by omega) (by omega); show u64 p.d < 4294967296; omega) (by rw [e]; simp only [List.append_assoc]; rfl) (by simp only [List.length_append, Wire.be_length])
  have v4 : vAt (encP p) 14 1 = u64 p.k := vAt_at _ (Wire.be (u64 p.t) 8 ++ Wire.be (u64 p.s) 2 ++ Wire.be (u64 p.d) 4) _ _ 1 14 (by decide) (by have := u64_small (n := p.k) (by omega) (by omega); show u64 p.k < 256; omega) (by rw [e]; simp only [List.append_assoc]; rfl) (by simp only [List.length_append, Wire.be_length])
  have v5 : vAt (encP p) 15 8 = u64 p.a0 := vAt_at _ (Wire.be (u64 p.t) 8 ++ Wire.be (u64 p.s) 2 ++ Wire.be (u64 p.d) 4 ++ Wire.be (u64 p.k) 1) _ _ 8 15 (by decide) (Nat.lt_of_lt_of_le (l _) (by decide)) (by rw [e]; simp only [List.append_assoc]; rfl) (by simp only [List.length_append, Wire.be_length])
  have v6 : vAt (encP p) 23 8 = u64 p.a1 := vAt_at _ (Wire.be (u64 p.t) 8 ++ Wire.be (u64 p.s) 2 ++ Wire.be (u64 p.d) 4 ++ Wire.be (u64 p.k) 1 ++ Wire.be (u64 p.a0) 8) _ _ 8 23 (by decide) (Nat.lt_of_lt_of_le (l _) (by decide)) (by rw [e]; simp only [List.append_assoc]; rfl) (by simp only [List.length_append, Wire.be_length])
  have v7 : vAt (encP p) 31 8 = u64 p.a2 := vAt_at _ (Wire.be (u64 p.t) 8 ++ Wire.be (u64 p.s) 2 ++ Wire.be (u64 p.d) 4 ++ Wire.be (u64 p.k) 1 ++ Wire.be (u64 p.a0) 8 ++ Wire.be (u64 p.a1) 8) _ _ 8 31 (by decide) (Nat.lt_of_lt_of_le (l _) (by decide)) (by rw [e]; simp only [List.append_assoc]; rfl) (by simp only [List.length_append, Wire.be_length])
  have v8 : vAt (encP p) 39 8 = u64 p.a3 := vAt_at _ (Wire.be (u64 p.t) 8 ++ Wire.be (u64 p.s) 2 ++ Wire.be (u64 p.d) 4 ++ Wire.be (u64 p.k) 1 ++ Wire.be (u64 p.a0) 8 ++ Wire.be (u64 p.a1) 8 ++ Wire.be (u64 p.a2) 8) _ _ 8 39 (by decide) (Nat.lt_of_lt_of_le (l _) (by decide)) (by rw [e]; simp only [List.append_assoc]; rfl) (by simp only [List.length_append, Wire.be_length])
  have v9 : vAt (encP p) 47 8 = u64 p.a4 := vAt_at _ (Wire.be (u64 p.t) 8 ++ Wire.be (u64 p.s) 2 ++ Wire.be (u64 p.d) 4 ++ Wire.be (u64 p.k) 1 ++ Wire.be (u64 p.a0) 8 ++ Wire.be (u64 p.a1) 8 ++ Wire.be (u64 p.a2) 8 ++ Wire.be (u64 p.a3) 8) _ _ 8 47 (by decide) (Nat.lt_of_lt_of_le (l _) (by decide)) (by rw [e]; simp only [List.append_assoc]; rfl) (by simp only [List.length_append, Wire.be_length])
  have v10 : vAt (encP p) 55 8 = u64 p.a5 := vAt_at _ (Wire.be (u64 p.t) 8 ++ Wire.be (u64 p.s) 2 ++ Wire.be (u64 p.d) 4 ++ Wire.be (u64 p.k) 1 ++ Wire.be (u64 p.a0) 8 ++ Wire.be (u64 p.a1) 8 ++ Wire.be (u64 p.a2) 8 ++ Wire.be (u64 p.a3) 8 ++ Wire.be (u64 p.a4) 8) [] _ 8 55 (by decide) (Nat.lt_of_lt_of_le (l _) (by decide)) (by rw [e]; simp only [List.append_assoc, List.append_nil]) (by simp only [List.length_append, Wire.be_length])
  unfold pOf
  rw [v1, v2, v3, v4, v5, v6, v7, v8, v9, v10, u64_small hd.1 (by omega), u64_small ht.1 ht.2, u64_small (n := p.s) (by omega) (by omega), u64_small (n := p.k) (by omega) (by omega), wrap_u64 w4, wrap_u64 w5, wrap_u64 w6, wrap_u64 w7, wrap_u64 w8, wrap_u64 w9]
theorem pBytesP (x : Pst) (hw : x.wf) (hm : x.may = true) (w : World) :
    Calls Tryd.prog 22 #[.agg #[.int .i64 x.d, .int .u64 x.t, .int .i64 x.s, .int .i64 x.k, .int .i64 x.a0, .int .i64 x.a1, .int .i64 x.a2, .int .i64 x.a3, .int .i64 x.a4, .int .i64 x.a5]] w fun e w' => ∃ u, e = .returned (.tuple #[u, .int .i64 0]) ∧ w'.ownsRow w.heap.size 5 1 u (encP x).length (bytesV (encP x)) ∧ Below w.heap.size w w' := by
  obtain ⟨hk, hd, hs⟩ := may_in hm
  have ht := in_u64 hw.2.1
  obtain ⟨d, t, s, k, a0, a1, a2, a3, a4, a5⟩ := x
  simp only at hk hd hs ht ⊢
  obtain ⟨D, rfl⟩ := Int.eq_ofNat_of_zero_le hd.1
  obtain ⟨T, rfl⟩ := Int.eq_ofNat_of_zero_le ht.1
  obtain ⟨S, rfl⟩ := Int.eq_ofNat_of_zero_le (show 0 ≤ s by omega)
  obtain ⟨K, rfl⟩ := Int.eq_ofNat_of_zero_le (show 0 ≤ k by omega)
  have h := pBytes_any T S D K a0 a1 a2 a3 a4 a5 (by omega) (by omega) (by omega) (by omega) w hm
  have e : encP ⟨(D : Int), (T : Int), (S : Int), (K : Int), a0, a1, a2, a3, a4, a5⟩ = encQ T S D K ++ encA [a0, a1, a2, a3, a4, a5] := by
    unfold encP encH encQ Pst.am
    simp only
    rw [u64_nat T (by omega), u64_nat S (by omega), u64_nat D (by omega), u64_nat K (by omega)]
  rw [e]
  exact h
theorem rBytesP (x : Pst) (hw : x.wf) (hm : x.may = true) (w : World) :
    Calls Tryd.prog 31 #[.agg #[.int .i64 x.d, .int .u64 x.t, .int .i64 x.s, .int .i64 x.k, .int .i64 x.a0, .int .i64 x.a1, .int .i64 x.a2, .int .i64 x.a3, .int .i64 x.a4, .int .i64 x.a5]] w fun e w' => ∃ u, e = .returned u ∧ w'.ownsRow w.heap.size 5 1 u (encP x).length (bytesV (encP x)) ∧ Below w.heap.size w w' := by
  obtain ⟨hk, hd, hs⟩ := may_in hm
  have ht := in_u64 hw.2.1
  obtain ⟨d, t, s, k, a0, a1, a2, a3, a4, a5⟩ := x
  simp only at hk hd hs ht ⊢
  obtain ⟨D, rfl⟩ := Int.eq_ofNat_of_zero_le hd.1
  obtain ⟨T, rfl⟩ := Int.eq_ofNat_of_zero_le ht.1
  obtain ⟨S, rfl⟩ := Int.eq_ofNat_of_zero_le (show 0 ≤ s by omega)
  obtain ⟨K, rfl⟩ := Int.eq_ofNat_of_zero_le (show 0 ≤ k by omega)
  have h := rBytes14_any a0 a1 a2 a3 a4 a5 D T S K (by omega) (by omega) (by omega) (by omega) w
  have e : encP ⟨(D : Int), (T : Int), (S : Int), (K : Int), a0, a1, a2, a3, a4, a5⟩ = (((Wire.be T 8 ++ Wire.be S 2) ++ Wire.be D 4) ++ Wire.be K 1) ++ encA [a0, a1, a2, a3, a4, a5] := by
    unfold encP encH Pst.am
    simp only
    rw [u64_nat T (by omega), u64_nat S (by omega), u64_nat D (by omega), u64_nat K (by omega)]
  rw [e]
  exact h
end Go.Proofs.YtellhmbebimenaaDoor
