/- WireDecimals returns true for every text, bound and number, and leaves the memory that was there as it was. -/
import Derived.Test.YtfpcpnjegbmdbaaWDecA
import Derived.Test.YtfpcpnjegbmdbaaWirK
set_option linter.unusedSimpArgs false
set_option linter.unusedVariables false
namespace Go.Proofs.Ytfpcpnjegbmdbaa.wireDecimals
open Go.ChangeShapes Go.WideShapes Go.ChangeAt Go.RowKit
open Go.ChangeMaps (open_string shut_string)

set_option maxHeartbeats 1000000 in
theorem walk (s : ByteArray) (most n : Int) (ws : s.size ≤ maxLen) (wmost : (Lit.int .u64 most).wf = true) (wn : (Lit.int .u64 n).wf = true) (w : World) :
    Calls Try.prog 5 #[.string s, .int .u64 most, .int .u64 n] w fun e w' => e = .returned (.bool true) ∧ Below w.heap.size w w' := by
  have hm := u64_bdW wmost
  have hn := u64_bdW wn
  clear wmost wn
  obtain ⟨m0, m1⟩ := hm
  obtain ⟨n0, n1⟩ := hn
  unfold maxLen at ws
  by_cases h100 : 100 < s.size
  · go_enter Try.func5, Try.ntmps5
    go_wp2_with fail
    refine (known01_any _).mono ?_
    rintro e w1 ⟨rfl, hb1⟩
    go_wp2
    go_ret
    exact ⟨rfl, hb1⟩
  · have H1 := Lib.hid (wDecimal_any s (by omega) most m0 m1)
    have H2 := Lib.hid (rDecimal_any s (by omega) most m0 m1)
    have H3 := Lib.hid (rText01_any n n0 n1)
    have H4 := Lib.hid (wDecimal_any ⟨(Dec.digits n.toNat).toArray⟩ (by have := Dec.digits_length_le n.toNat 19 (by omega); simp [ByteArray.size]; omega) most m0 m1)
    rw [show (⟨(Dec.digits n.toNat).toArray⟩ : ByteArray).data.toList = Dec.digits n.toNat from rfl, Dec.decE_digits, Dec.decN_digits] at H4
    generalize (⟨(Dec.digits n.toNat).toArray⟩ : ByteArray) = T at *
    generalize ((Dec.decN s.data.toList most.toNat : Nat) : Int) = x at *
    generalize ((Dec.decE s.data.toList most.toNat : Nat) : Int) = ev at *
    by_cases hle : n ≤ most
    · have hlt : ¬ most.toNat < n.toNat := by omega
      rw [if_neg hlt, if_neg hlt, show ((n.toNat : Nat) : Int) = n from by omega] at H4
      clear hlt
      go_enter Try.func5, Try.ntmps5
      go_wp2_with fail
      refine (H1.out _).mono ?_
      rintro e w1 ⟨rfl, hb1⟩
      go_wp2_with fail
      refine (H2.out _).mono ?_
      rintro e w2 ⟨rfl, hb2⟩
      replace hb2 := below_callW hb1 hb2
      clear hb1
      go_wp2_with fail
      refine (H3.out _).mono ?_
      rintro e w3 ⟨rfl, hb3⟩
      replace hb3 := below_callW hb2 hb3
      clear hb2
      go_wp2_with fail
      refine (H4.out _).mono ?_
      rintro e w4 ⟨rfl, hb4⟩
      replace hb4 := below_callW hb3 hb4
      clear hb3
      go_wp2_with fail
      refine (known01_any _).mono ?_
      rintro e w5 ⟨rfl, hb5⟩
      go_wp2
      go_ret
      exact ⟨rfl, below_callW hb4 hb5⟩
    · have hlt : most.toNat < n.toNat := by omega
      rw [if_pos hlt, if_pos hlt] at H4
      clear hlt
      go_enter Try.func5, Try.ntmps5
      go_wp2_with fail
      refine (H1.out _).mono ?_
      rintro e w1 ⟨rfl, hb1⟩
      go_wp2_with fail
      refine (H2.out _).mono ?_
      rintro e w2 ⟨rfl, hb2⟩
      replace hb2 := below_callW hb1 hb2
      clear hb1
      go_wp2_with fail
      refine (H3.out _).mono ?_
      rintro e w3 ⟨rfl, hb3⟩
      replace hb3 := below_callW hb2 hb3
      clear hb2
      go_wp2_with fail
      refine (H4.out _).mono ?_
      rintro e w4 ⟨rfl, hb4⟩
      replace hb4 := below_callW hb3 hb4
      clear hb3
      go_wp2_with fail
      refine (known01_any _).mono ?_
      rintro e w5 ⟨rfl, hb5⟩
      go_wp2
      go_ret
      exact ⟨rfl, below_callW hb4 hb5⟩

set_option maxRecDepth 100000 in
theorem lifted (os : Os) (started : os.Started) (H : Type) (enc : TypeId × Value → H) :
    ReturnsInHanded {} Try.checked os 5 .any (Rows.wireDecimalsSpec.pre6 enc Try.prog Try.f5 Rows.wireDecimalsRow.domain false) (Rows.wireDecimalsSpec.post enc Try.prog Try.f5 false true false false) := by
  refine returnsInHanded_of_change (C := Try.checked) own started (by kernel_rfl) Try.func5
    (ChangeSpec.witness6 (enc := enc) (C := Try.checked) false ⟨#[], #[.string ByteArray.empty, .int .u64 0, .int .u64 0], []⟩ 8 (by kernel_rfl) (by kernel_rfl) (by kernel_rfl) (by kernel_rfl)) ?_
  intro W base args ds gs before hval0 hW hcnd _
  have hval : ∀ (j : Nat) t v, Try.f5.params[j]? = some t → args[j]? = some v → Value.okWide Try.prog W .any base t v := hval0
  have hW' := hW
  obtain ⟨p, q, hA0, hV, rfl, hfz, hnd⟩ := hW
  have hA : DataW.TrodAll enc Try.prog W 0 (fun _ => true) true Try.f5.params.toList args.toList ds p := hA0
  rw [Try.params5] at hA hval
  obtain ⟨v0, vs0, d0, ds0, p0, q0, hargs, rfl, rfl, h0, r0⟩ := trodAll_cons hA
  obtain ⟨v1, vs1, d1, ds1, p1, q1, rfl, rfl, rfl, h1, r1⟩ := trodAll_cons r0
  obtain ⟨v2, vs2, d2, ds2, p2, q2, rfl, rfl, rfl, h2, r2⟩ := trodAll_cons r1
  obtain ⟨rfl, rfl, rfl⟩ := trodAll_nil r2
  obtain rfl : args = #[v0, v1, v2] := by cases args; simp_all
  obtain ⟨s, rfl, rfl, rfl, ws⟩ := open_string Try.underlying9 (hval 0 9 v0 rfl rfl) h0
  obtain ⟨most, rfl, rfl, rfl, wmost⟩ := open_int Try.underlying33 (hval 1 33 v1 rfl rfl) h1
  obtain ⟨n, rfl, rfl, rfl, wn⟩ := open_int Try.underlying33 (hval 2 33 v2 rfl rfl) h2
  clear hA0 hval0
  refine (walk s most n ws wmost wn W).mono fun e W' ⟨he, hg⟩ => ?_
  subst he
  exact ⟨_, rfl, post_law laidOut rfl hW' ⟨rfl, rfl, rfl⟩ (by kernel_rfl) hg Try.underlying4 rfl⟩

theorem proved : Rows.WireDecimalsSaid :=
  OpenClaim.holds_of_wide 5 Try.f5 rfl rfl rfl rfl rfl rfl rfl ⟨rfl, rfl, rfl, rfl, rfl⟩ rfl rfl rfl rfl rfl (by kernel_rfl) Try.func5 (by kernel_rfl)
    (of_decide_eq_true (by kernel_rfl)) (by unfold Func.isWrapper; first | (rw [if_pos (by decide +kernel)]; kernel_rfl) | (rw [if_neg (by decide +kernel)]; exact ⟨rfl, rfl⟩))
    (fun os started H enc _ => lifted os started H enc)
#print axioms proved
end Go.Proofs.Ytfpcpnjegbmdbaa.wireDecimals
