/- NumberChecks returns true for every number and text and leaves the memory that was there as it was. -/
import Derived.Test.YtmofcaclohnmmaaMakes
set_option linter.unusedVariables false
set_option linter.unusedSimpArgs false
namespace Go.Proofs.Ytmofcaclohnmmaa.numberChecks
open Go.ChangeShapes Go.WideShapes Go.ChangeAt Go.RowKit
open Go.ChangeMaps (open_string shut_string)

theorem below_call {a w w' : World} (h : Below a.heap.size a w) (hx : Below w.heap.size w w') : Below a.heap.size a w' := h.trans (hx.mono h.size)

set_option maxHeartbeats 1000000 in
theorem walk (n : Int) (s : ByteArray) (wn : (Lit.int .u64 n).wf = true) (ws : s.size ≤ maxLen) (w : World) :
    Calls Try.prog 8 #[.int .u64 n, .string s] w fun e w' => e = .returned (.bool true) ∧ Below w.heap.size w w' := by
  obtain ⟨bn0, bn1⟩ := u64_bd wn
  clear wn
  by_cases hl : 100 < s.size
  · go_enter Try.func8, Try.ntmps8
    go_wp2_with (first | (go_at_call 9; refine (known_any _).mono ?_; rintro e w' ⟨rfl, rfl⟩))
    go_ret
    exact ⟨rfl, Below.refl _ _⟩
  · have HW := Lib.hid (Below.refl w.heap.size w)
    by_cases hc : Num.check n = 0
    · have hb := Num.check_zero hc
      obtain ⟨hb1, hb2, _⟩ := hb
      have hd : Dec.digits n.toNat = Dec.text n.toNat 13 := Num.digits_text (by omega) (by omega)
      go_enter Try.func8, Try.ntmps8
      go_wp2_with (first
        | (go_at_call 15; refine (check_any _ bn0 bn1 _).mono ?_; rintro e w' ⟨rfl, rfl⟩)
        | (go_at_call 23; refine (carrier_any _ bn0 bn1 _).mono ?_; rintro e w' ⟨rfl, rfl⟩)
        | (go_at_call 24; refine (serial_any _ bn0 bn1 _).mono ?_; rintro e w' ⟨rfl, rfl⟩)
        | (go_at_call 26; refine (rParts_any _ bn0 bn1 _).mono ?_; rintro e w' ⟨rfl, hx⟩; replace HW := Lib.hid (below_call HW.out hx); clear hx)
        | (go_at_call 27; refine (rCheck_any _ bn0 bn1 _).mono ?_; rintro e w' ⟨rfl, hx⟩; replace HW := Lib.hid (below_call HW.out hx); clear hx)
        | (go_at_call 28; refine (rdigits_any _ bn0 bn1 _).mono ?_; rintro e w' ⟨rfl, hx⟩; replace HW := Lib.hid (below_call HW.out hx); clear hx)
        | (go_at_call 25; refine (text_any _ bn0 bn1 _).mono ?_; rintro e w' ⟨rfl, hx⟩; replace HW := Lib.hid (below_call HW.out hx); clear hx)
        | (go_at_call 17; refine (of_any _ ws _).mono ?_; rintro e w' ⟨rfl, hx⟩; replace HW := Lib.hid (below_call HW.out hx); clear hx)
        | (go_at_call 29; refine (rOf_any _ ws _).mono ?_; rintro e w' ⟨rfl, m, rfl⟩; replace HW := Lib.hid (below_drewN HW.out m))
        | (go_at_call 9; refine (known_any _).mono ?_; rintro e w' ⟨rfl, rfl⟩))
      go_ret
      exact ⟨rfl, HW.out⟩
    · have hcb : (Num.check n == 0) = false := by simpa using hc
      have hcb2 : (Num.check n != 0) = true := bne_iff_ne.2 hc
      go_enter Try.func8, Try.ntmps8
      go_wp2_with (first
        | (go_at_call 15; refine (check_any _ bn0 bn1 _).mono ?_; rintro e w' ⟨rfl, rfl⟩)
        | (go_at_call 23; refine (carrier_any _ bn0 bn1 _).mono ?_; rintro e w' ⟨rfl, rfl⟩)
        | (go_at_call 24; refine (serial_any _ bn0 bn1 _).mono ?_; rintro e w' ⟨rfl, rfl⟩)
        | (go_at_call 26; refine (rParts_any _ bn0 bn1 _).mono ?_; rintro e w' ⟨rfl, hx⟩; replace HW := Lib.hid (below_call HW.out hx); clear hx)
        | (go_at_call 27; refine (rCheck_any _ bn0 bn1 _).mono ?_; rintro e w' ⟨rfl, hx⟩; replace HW := Lib.hid (below_call HW.out hx); clear hx)
        | (go_at_call 28; refine (rdigits_any _ bn0 bn1 _).mono ?_; rintro e w' ⟨rfl, hx⟩; replace HW := Lib.hid (below_call HW.out hx); clear hx)
        | (go_at_call 25; refine (text_any _ bn0 bn1 _).mono ?_; rintro e w' ⟨rfl, hx⟩; replace HW := Lib.hid (below_call HW.out hx); clear hx)
        | (go_at_call 17; refine (of_any _ ws _).mono ?_; rintro e w' ⟨rfl, hx⟩; replace HW := Lib.hid (below_call HW.out hx); clear hx)
        | (go_at_call 29; refine (rOf_any _ ws _).mono ?_; rintro e w' ⟨rfl, m, rfl⟩; replace HW := Lib.hid (below_drewN HW.out m))
        | (go_at_call 9; refine (known_any _).mono ?_; rintro e w' ⟨rfl, rfl⟩))
      go_ret
      exact ⟨rfl, HW.out⟩

set_option maxRecDepth 100000 in
theorem lifted (os : Os) (started : os.Started) (H : Type) (enc : TypeId × Value → H) :
    ReturnsInHanded {} Try.checked os 8 .any (Rows.numberChecksSpec.pre6 enc Try.prog Try.f8 Rows.numberChecksRow.domain false) (Rows.numberChecksSpec.post enc Try.prog Try.f8 false true false false) := by
  refine returnsInHanded_of_change (C := Try.checked) own started (by kernel_rfl) Try.func8
    (ChangeSpec.witness6 (enc := enc) (C := Try.checked) false ⟨#[], #[.int .u64 0, .string ByteArray.empty], []⟩ 8 (by kernel_rfl) (by kernel_rfl) (by kernel_rfl) (by kernel_rfl)) ?_
  intro W base args ds gs before hval0 hW hcnd _
  have hval : ∀ (j : Nat) t v, Try.f8.params[j]? = some t → args[j]? = some v → Value.okWide Try.prog W .any base t v := hval0
  have hW' := hW
  obtain ⟨p, q, hA0, hV, rfl, hfz, hnd⟩ := hW
  have hA : DataW.TrodAll enc Try.prog W 0 (fun _ => true) true Try.f8.params.toList args.toList ds p := hA0
  rw [Try.params8] at hA hval
  obtain ⟨v0, vs0, d0, ds0, p0, q0, hargs, rfl, rfl, h0, r0⟩ := trodAll_cons hA
  obtain ⟨v1, vs1, d1, ds1, p1, q1, rfl, rfl, rfl, h1, r1⟩ := trodAll_cons r0
  obtain ⟨rfl, rfl, rfl⟩ := trodAll_nil r1
  obtain rfl : args = #[v0, v1] := by cases args; simp_all
  obtain ⟨n, rfl, rfl, rfl, wn⟩ := open_int Try.underlying26 (hval 0 26 v0 rfl rfl) h0
  obtain ⟨s, rfl, rfl, rfl, ws⟩ := open_string Try.underlying9 (hval 1 9 v1 rfl rfl) h1
  clear hA0 hval0
  refine (walk n s wn ws W).mono fun e W' ⟨he, hg⟩ => ?_
  subst he
  exact ⟨_, rfl, post_law laidOut rfl hW' ⟨rfl, rfl, rfl⟩ (by kernel_rfl) hg Try.underlying4 rfl⟩

theorem proved : Rows.NumberChecksSaid :=
  OpenClaim.holds_of_wide 8 Try.f8 rfl rfl rfl rfl rfl rfl rfl ⟨rfl, rfl, rfl, rfl, rfl⟩ rfl rfl rfl rfl rfl (by kernel_rfl) Try.func8 (by kernel_rfl)
    (of_decide_eq_true (by kernel_rfl)) (by unfold Func.isWrapper; first | (rw [if_pos (by decide +kernel)]; kernel_rfl) | (rw [if_neg (by decide +kernel)]; exact ⟨rfl, rfl⟩))
    (fun os started H enc _ => lifted os started H enc)
#print axioms proved
end Go.Proofs.Ytmofcaclohnmmaa.numberChecks
