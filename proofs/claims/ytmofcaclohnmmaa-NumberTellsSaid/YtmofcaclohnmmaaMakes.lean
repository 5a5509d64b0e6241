/- NumberMakes returns true for every carrier and serial and leaves the memory that was there as it was. -/
import Derived.Test.YtmofcaclohnmmaaNumF
import Derived.Test.YtmofcaclohnmmaaApart
set_option linter.unusedVariables false
set_option linter.unusedSimpArgs false
namespace Go.Proofs.Ytmofcaclohnmmaa.numberMakes
open Go.ChangeShapes Go.WideShapes Go.ChangeAt Go.RowKit

theorem text_back (c s : Int) (hc : Num.mayC c = true) (hs : Num.mayS s = true) : Num.textOf c.toNat s.toNat = Dec.text (Num.make c s).toNat 13 := by
  have bc := Num.mayC_iff.1 hc
  have bs := Num.mayS_iff.1 hs
  have h := Num.make_val c.toNat s.toNat (by omega) (by omega)
  rw [show ((c.toNat : Nat) : Int) = c from by omega, show ((s.toNat : Nat) : Int) = s from by omega] at h
  have h1 := Dec.val_text _ (Num.textOf_all c.toNat s.toNat)
  rw [Num.textOf_length] at h1
  rw [← h]
  exact h1.symm
theorem of_back (m : Int) (h : Num.check m = 0) : Num.ofE (Dec.text m.toNat 13) = 0 ∧ Num.ofN (Dec.text m.toNat 13) = m := by
  have b := Num.check_zero h
  have v : Dec.val (Dec.text m.toNat 13) = m.toNat := by rw [Dec.text_val]; exact Nat.mod_eq_of_lt (by omega)
  have e : Num.ofE (Dec.text m.toNat 13) = 0 := by rw [ofE_13 (Dec.text_length _ _) (Dec.text_all _ _), v, show ((m.toNat : Nat) : Int) = m from by omega, h]
  exact ⟨e, by unfold Num.ofN; rw [if_pos e, v]; omega⟩

set_option maxHeartbeats 1000000 in
theorem walk (c s : Int) (wc : (Lit.int .i64 c).wf = true) (ws : (Lit.int .i64 s).wf = true) (w : World) :
    Calls Try.prog 7 #[.int .i64 c, .int .i64 s] w fun e w' => e = .returned (.bool true) ∧ Below w.heap.size w w' := by
  clear wc ws
  by_cases h : (Num.mayC c && Num.mayS s) = true
  · have h1 : Num.mkN c s = Num.make c s := by unfold Num.mkN; rw [if_pos h]
    have h2 : Num.mkE c s = 0 := by unfold Num.mkE; rw [if_pos h]
    have h' := h
    rw [Bool.and_eq_true] at h'
    obtain ⟨hc, hs⟩ := h'
    have bc := Num.mayC_iff.1 hc
    have bs := Num.mayS_iff.1 hs
    obtain ⟨bc1, bc2⟩ := bc
    obtain ⟨bs1, bs2⟩ := bs
    obtain ⟨k1, k2, k3⟩ := Num.make_check c s hc hs
    obtain ⟨b1, b2⟩ := Num.make_bound c s hc hs
    have tb := text_back c s hc hs
    obtain ⟨o1, o2⟩ := of_back _ k1
    generalize Num.make c s = m at *
    clear hc hs
    go_enter Try.func7, Try.ntmps7
    go_wp2_with fail
    refine (make_any _ _ _).mono ?_
    rintro e w' ⟨rfl, rfl⟩
    go_wp2_with fail
    refine (rMake_any _ _ _).mono ?_
    rintro e w1 ⟨rfl, hb1⟩
    go_wp2_with (first
      | (go_at_call 15; refine (check_any _ (by omega) (by omega) _).mono ?_; rintro e w' ⟨rfl, rfl⟩)
      | (go_at_call 23; refine (carrier_any _ (by omega) (by omega) _).mono ?_; rintro e w' ⟨rfl, rfl⟩)
      | (go_at_call 24; refine (serial_any _ (by omega) (by omega) _).mono ?_; rintro e w' ⟨rfl, rfl⟩))
    refine (text_any _ (by omega) (by omega) _).mono ?_
    rintro e w2 ⟨rfl, hb2⟩
    go_wp2_with fail
    refine (rText_any _ _ (by omega) (by omega) (by omega) (by omega) _).mono ?_
    rintro e w3 ⟨rfl, hb3⟩
    go_wp2_with fail
    refine (text_any _ (by omega) (by omega) _).mono ?_
    rintro e w4 ⟨rfl, hb4⟩
    rw [if_pos k1]
    go_wp2_with fail
    refine (of_any _ (by rw [size_string, Dec.text_length]; decide) _).mono ?_
    rintro e w5 ⟨rfl, hb5⟩
    rw [toList_mk]
    have HW := Lib.hid (hb1.trans ((hb2.trans ((hb3.trans ((hb4.trans (hb5.mono hb4.size)).mono hb3.size)).mono hb2.size)).mono hb1.size))
    go_wp2_with (first | (go_at_call 9; refine (known_any _).mono ?_; rintro e w' ⟨rfl, rfl⟩))
    go_ret
    exact ⟨rfl, HW.out⟩
  · have h1 : Num.mkN c s = 0 := by unfold Num.mkN; rw [if_neg h]
    have h2 : Num.mkE c s = 2 := by unfold Num.mkE; rw [if_neg h]
    have h3 := Bool.eq_false_iff.2 h
    clear h
    go_enter Try.func7, Try.ntmps7
    go_wp2_with fail
    refine (make_any _ _ _).mono ?_
    rintro e w' ⟨rfl, rfl⟩
    go_wp2_with fail
    refine (rMake_any _ _ _).mono ?_
    rintro e w1 ⟨rfl, hb1⟩
    go_wp2_with (first | (go_at_call 9; refine (known_any _).mono ?_; rintro e w' ⟨rfl, rfl⟩))
    go_ret
    exact ⟨rfl, hb1⟩

set_option maxRecDepth 100000 in
theorem lifted (os : Os) (started : os.Started) (H : Type) (enc : TypeId × Value → H) :
    ReturnsInHanded {} Try.checked os 7 .any (Rows.numberMakesSpec.pre6 enc Try.prog Try.f7 Rows.numberMakesRow.domain false) (Rows.numberMakesSpec.post enc Try.prog Try.f7 false true false false) := by
  refine returnsInHanded_of_change (C := Try.checked) own started (by kernel_rfl) Try.func7
    (ChangeSpec.witness6 (enc := enc) (C := Try.checked) false ⟨#[], #[.int .i64 0, .int .i64 0], []⟩ 8 (by kernel_rfl) (by kernel_rfl) (by kernel_rfl) (by kernel_rfl)) ?_
  intro W base args ds gs before hval0 hW hcnd _
  have hval : ∀ (j : Nat) t v, Try.f7.params[j]? = some t → args[j]? = some v → Value.okWide Try.prog W .any base t v := hval0
  have hW' := hW
  obtain ⟨p, q, hA0, hV, rfl, hfz, hnd⟩ := hW
  have hA : DataW.TrodAll enc Try.prog W 0 (fun _ => true) true Try.f7.params.toList args.toList ds p := hA0
  rw [Try.params7] at hA hval
  obtain ⟨v0, vs0, d0, ds0, p0, q0, hargs, rfl, rfl, h0, r0⟩ := trodAll_cons hA
  obtain ⟨v1, vs1, d1, ds1, p1, q1, rfl, rfl, rfl, h1, r1⟩ := trodAll_cons r0
  obtain ⟨rfl, rfl, rfl⟩ := trodAll_nil r1
  obtain rfl : args = #[v0, v1] := by cases args; simp_all
  obtain ⟨c, rfl, rfl, rfl, wc⟩ := open_int Try.underlying3 (hval 0 3 v0 rfl rfl) h0
  obtain ⟨s, rfl, rfl, rfl, ws⟩ := open_int Try.underlying3 (hval 1 3 v1 rfl rfl) h1
  clear hA0 hval0
  refine (walk c s wc ws W).mono fun e W' ⟨he, hg⟩ => ?_
  subst he
  exact ⟨_, rfl, post_law laidOut rfl hW' ⟨rfl, rfl, rfl⟩ (by kernel_rfl) hg Try.underlying4 rfl⟩

theorem proved : Rows.NumberMakesSaid :=
  OpenClaim.holds_of_wide 7 Try.f7 rfl rfl rfl rfl rfl rfl rfl ⟨rfl, rfl, rfl, rfl, rfl⟩ rfl rfl rfl rfl rfl (by kernel_rfl) Try.func7 (by kernel_rfl)
    (of_decide_eq_true (by kernel_rfl)) (by unfold Func.isWrapper; first | (rw [if_pos (by decide +kernel)]; kernel_rfl) | (rw [if_neg (by decide +kernel)]; exact ⟨rfl, rfl⟩))
    (fun os started H enc _ => lifted os started H enc)
#print axioms proved
end Go.Proofs.Ytmofcaclohnmmaa.numberMakes
