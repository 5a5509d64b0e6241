/- WireNil returns true, and leaves the memory that was there as it was. -/
import Derived.Test.YtfpcpnjegbmdbaaNilA
set_option linter.unusedVariables false
set_option linter.unusedSimpArgs false
namespace Go.Proofs.Ytfpcpnjegbmdbaa.wireNil
open Go.ChangeShapes Go.WideShapes Go.ChangeAt Go.RowKit

set_option maxRecDepth 4000 in
set_option maxHeartbeats 4000000 in
theorem walk (w : World) :
    Calls Try.prog 10 #[] w fun e w' => e = .returned (.bool true) ∧ Below w.heap.size w w' := by
  have HB0 := Lib.hid (Below.refl w.heap.size w)
  go_enter Try.func10, Try.ntmps10
  go_wp2_with fail
  refine (wnumber_nil 1 (by decide) 1 (by decide) (by decide) _).mono ?_
  rintro e w1 ⟨rfl, hb1⟩
  have HB1 := Lib.hid (HB0.out.trans (hb1.mono HB0.out.size)); clear hb1
  go_wp2_with fail
  refine (wint_nil _).mono ?_
  rintro e w2 ⟨rfl, hb1⟩
  have HB2 := Lib.hid (HB1.out.trans (hb1.mono HB1.out.size)); clear hb1
  go_wp2_with fail
  refine (wflag_nil _).mono ?_
  rintro e w3 ⟨rfl, hb1⟩
  have HB3 := Lib.hid (HB2.out.trans (hb1.mono HB2.out.size)); clear hb1
  go_wp2_with fail
  refine (wbytes_nil _ _ _ _).mono ?_
  rintro e w4 ⟨rfl, rfl⟩
  have HB4 := Lib.hid (HB3.out.alloc HB3.out.size (.cells #[.int .u8 1] 5))
  generalize w3.alloc (.cells #[.int .u8 1] 5) = w4 at *
  go_wp2_with fail
  refine (wblob_nil _ _ _ (by decide) _).mono ?_
  rintro e w5 ⟨rfl, hb1⟩
  have HB5 := Lib.hid (HB4.out.trans (hb1.mono HB4.out.size)); clear hb1
  go_wp2_with fail
  refine (wtext_nil _ (by decide) _).mono ?_
  rintro e w6 ⟨rfl, hb1⟩
  have HB6 := Lib.hid (HB5.out.trans (hb1.mono HB5.out.size)); clear hb1
  go_wp2_with fail
  refine (wcount_nil _).mono ?_
  rintro e w7 ⟨rfl, hb1⟩
  have HB7 := Lib.hid (HB6.out.trans (hb1.mono HB6.out.size)); clear hb1
  go_wp2_with fail
  refine (wlen_nil _).mono ?_
  rintro e w8 ⟨rfl, rfl⟩
  go_wp2_with fail
  refine (wend_nil _).mono ?_
  rintro e w8 ⟨rfl, rfl⟩
  go_wp2_with fail
  refine (wend_some _ _ _ [] (Nat.zero_le _) _ (new_writer w7)).mono ?_
  rintro e w9 ⟨v9, rfl, hown, hb9⟩
  have HB9 := Lib.hid (HB7.out.trans (((Below.refl w7.heap.size w7).alloc (Nat.le_refl _) _).trans (hb9.mono (by simp)) |>.mono HB7.out.size)); clear hb9
  obtain ⟨q9, c9, rfl⟩ := own_form hown
  clear hown
  rw [show ([] : List UInt8).length = 0 from rfl]
  go_wp2_with fail
  go_loopw [9] (fun i wr => ∃ k : Nat, k ≤ 2 ∧ i = .int .i64 k ∧ IsZ wr w.heap.size (some ⟨w9.heap.size, 0, none⟩) ∧ Below w.heap.size w wr ∧ ∃ t, t ∉ RT ∧ wr.heap[w9.heap.size + 1]? = some (.cells #[.pointer none, .pointer (some ⟨w9.heap.size, 0, none⟩)] t (0, 0))) (fun i _ => 2 - (intOf i).toNat)
  case atStart => exact ⟨0, by omega, rfl, .inr ⟨_, false, rfl, HB9.out.size, row_allocW (new_rowW _ _ _ rfl) _⟩, (HB9.out.alloc HB9.out.size _).alloc (by have := HB9.out.size; simp; omega) _, _, by decide, new_rowW _ _ _ (by simp)⟩
  case round =>
    obtain ⟨k, hk, rfl, hz0, hbw, t, ht, hrow⟩ := hrel
    have HZ0 := Lib.hid hz0
    have HBW := Lib.hid hbw
    have HROW := Lib.hid hrow
    have HT := Lib.hid ht
    have hc := fun j => cell_of_row wr _ j _ _ _ hrow
    clear hz0 hbw hrow ht
    rcases (by omega : k = 0 ∨ k = 1 ∨ k = 2) with rfl | rfl | rfl
    · have HI : Hid (IsZ wr w.heap.size none) := Lib.hid (.inl rfl)
      go_wp2_with fail
      refine (znumber w.heap.size _ 1 (by decide) _ HI.out).mono ?_
      rintro e u0 ⟨rfl, hz⟩
      have HS := Lib.hid (hz)
      have HI := Lib.hid hz.1
      clear hz
      go_wp2_with fail
      refine (zint w.heap.size _ _ HI.out).mono ?_
      rintro e u1 ⟨rfl, hz⟩
      have HS := Lib.hid (HS.out.trans hz)
      have HI := Lib.hid hz.1
      clear hz
      go_wp2_with fail
      refine (zflag w.heap.size _ _ HI.out).mono ?_
      rintro e u2 ⟨rfl, hz⟩
      have HS := Lib.hid (HS.out.trans hz)
      have HI := Lib.hid hz.1
      clear hz
      go_wp2_with fail
      refine (zbytes w.heap.size _ 0 _ HI.out).mono ?_
      rintro e u3 ⟨rfl, hz⟩
      have HS := Lib.hid (HS.out.trans hz)
      have HI := Lib.hid hz.1
      clear hz
      go_wp2_with fail
      refine (zblob w.heap.size _ _ HI.out).mono ?_
      rintro e u4 ⟨rfl, hz⟩
      have HS := Lib.hid (HS.out.trans hz)
      have HI := Lib.hid hz.1
      clear hz
      go_wp2_with fail
      refine (ztext w.heap.size _ _ HI.out).mono ?_
      rintro e u5 ⟨rfl, hz⟩
      have HS := Lib.hid (HS.out.trans hz)
      have HI := Lib.hid hz.1
      clear hz
      go_wp2_with fail
      refine (zcount w.heap.size _ _ HI.out).mono ?_
      rintro e u6 ⟨rfl, hz⟩
      have HS := Lib.hid (HS.out.trans hz)
      have HI := Lib.hid hz.1
      clear hz
      go_wp2_with fail
      refine (zleft w.heap.size _ _ HI.out).mono ?_
      rintro e ul ⟨rfl, rfl⟩
      go_wp2_with fail
      refine (zfail w.heap.size _ _ HI.out).mono ?_
      rintro e uf ⟨rfl, hz⟩
      have HS := Lib.hid (HS.out.trans hz)
      have HI := Lib.hid hz.1
      clear hz
      go_wp2_with fail
      refine (zend w.heap.size _ _ HI.out).mono ?_
      rintro e ue ⟨rfl, rfl⟩
      have HF := Lib.hid (HS.out.2.2.2 _ HZ0.out)
      have HB := Lib.hid (HBW.out.trans HS.out.2.1)
      have HR := Lib.hid (HS.out.2.2.1.block _ _ _ _ HROW.out HT.out)
      go_wp2
      go_roundw
      case rel => exact ⟨1, by omega, by go_num, HF.out, HB.out, t, HT.out, HR.out⟩
      case measure => simp [intOf]
    · have HI := HZ0
      go_wp2_with fail
      refine (znumber w.heap.size _ 1 (by decide) _ HI.out).mono ?_
      rintro e u0 ⟨rfl, hz⟩
      have HS := Lib.hid (hz)
      have HI := Lib.hid hz.1
      clear hz
      go_wp2_with fail
      refine (zint w.heap.size _ _ HI.out).mono ?_
      rintro e u1 ⟨rfl, hz⟩
      have HS := Lib.hid (HS.out.trans hz)
      have HI := Lib.hid hz.1
      clear hz
      go_wp2_with fail
      refine (zflag w.heap.size _ _ HI.out).mono ?_
      rintro e u2 ⟨rfl, hz⟩
      have HS := Lib.hid (HS.out.trans hz)
      have HI := Lib.hid hz.1
      clear hz
      go_wp2_with fail
      refine (zbytes w.heap.size _ 0 _ HI.out).mono ?_
      rintro e u3 ⟨rfl, hz⟩
      have HS := Lib.hid (HS.out.trans hz)
      have HI := Lib.hid hz.1
      clear hz
      go_wp2_with fail
      refine (zblob w.heap.size _ _ HI.out).mono ?_
      rintro e u4 ⟨rfl, hz⟩
      have HS := Lib.hid (HS.out.trans hz)
      have HI := Lib.hid hz.1
      clear hz
      go_wp2_with fail
      refine (ztext w.heap.size _ _ HI.out).mono ?_
      rintro e u5 ⟨rfl, hz⟩
      have HS := Lib.hid (HS.out.trans hz)
      have HI := Lib.hid hz.1
      clear hz
      go_wp2_with fail
      refine (zcount w.heap.size _ _ HI.out).mono ?_
      rintro e u6 ⟨rfl, hz⟩
      have HS := Lib.hid (HS.out.trans hz)
      have HI := Lib.hid hz.1
      clear hz
      go_wp2_with fail
      refine (zleft w.heap.size _ _ HI.out).mono ?_
      rintro e ul ⟨rfl, rfl⟩
      go_wp2_with fail
      refine (zfail w.heap.size _ _ HI.out).mono ?_
      rintro e uf ⟨rfl, hz⟩
      have HS := Lib.hid (HS.out.trans hz)
      have HI := Lib.hid hz.1
      clear hz
      go_wp2_with fail
      refine (zend w.heap.size _ _ HI.out).mono ?_
      rintro e ue ⟨rfl, rfl⟩
      have HF := Lib.hid (HS.out.2.2.2 _ HZ0.out)
      have HB := Lib.hid (HBW.out.trans HS.out.2.1)
      have HR := Lib.hid (HS.out.2.2.1.block _ _ _ _ HROW.out HT.out)
      go_wp2
      go_roundw
      case rel => exact ⟨2, by omega, by go_num, HF.out, HB.out, t, HT.out, HR.out⟩
      case measure => simp [intOf]
    · go_wp2_with fail
      refine (read_any _ [] (by decide) _ (BS.nil _)).mono ?_
      rintro e u1 ⟨br, rfl, hr, hb1⟩
      have HB := Lib.hid (HBW.out.trans (hb1.mono HBW.out.size))
      have HI := Lib.hid hr
      clear hr hb1
      go_wp2_with fail
      refine (rend_any _ br _ _ HI.out).mono ?_
      rintro e u2 ⟨rfl, nd, rfl⟩
      rw [if_pos rfl]
      have HB2 : Hid (Below w.heap.size w (u1.drewN nd)) := Lib.hid (HB.out.trans ⟨rfl, rfl, rfl, Nat.le_refl _, fun _ _ => rfl⟩)
      generalize u1.drewN nd = u3 at *
      go_wp2_with fail
      refine (known01_any _).mono ?_
      rintro e u4 ⟨rfl, hb4⟩
      go_wp2
      go_ret
      exact ⟨rfl, below_callW HB2.out hb4⟩

set_option maxRecDepth 100000 in
theorem lifted (os : Os) (started : os.Started) (H : Type) (enc : TypeId × Value → H) :
    ReturnsInHanded {} Try.checked os 10 .any (Rows.wireNilSpec.pre6 enc Try.prog Try.f10 Rows.wireNilRow.domain false) (Rows.wireNilSpec.post enc Try.prog Try.f10 false true false false) := by
  refine returnsInHanded_of_change (C := Try.checked) own started (by kernel_rfl) Try.func10
    (ChangeSpec.witness6 (enc := enc) (C := Try.checked) false ⟨#[], #[], []⟩ 8 (by kernel_rfl) (by kernel_rfl) (by kernel_rfl) (by kernel_rfl)) ?_
  intro W base args ds gs before hval0 hW hcnd _
  have hval : ∀ (j : Nat) t v, Try.f10.params[j]? = some t → args[j]? = some v → Value.okWide Try.prog W .any base t v := hval0
  have hW' := hW
  obtain ⟨p, q, hA0, hV, rfl, hfz, hnd⟩ := hW
  have hA : DataW.TrodAll enc Try.prog W 0 (fun _ => true) true Try.f10.params.toList args.toList ds p := hA0
  rw [Try.params10] at hA hval
  obtain ⟨rfl, rfl, rfl⟩ := trodAll_none hA
  clear hA0 hval0
  refine (walk  W).mono fun e W' ⟨he, hg⟩ => ?_
  subst he
  exact ⟨_, rfl, post_law laidOut rfl hW' ⟨rfl, rfl, rfl⟩ (by kernel_rfl) hg Try.underlying4 rfl⟩

theorem proved : Rows.WireNilSaid :=
  OpenClaim.holds_of_wide 10 Try.f10 rfl rfl rfl rfl rfl rfl rfl ⟨rfl, rfl, rfl, rfl, rfl⟩ rfl rfl rfl rfl rfl (by kernel_rfl) Try.func10 (by kernel_rfl)
    (of_decide_eq_true (by kernel_rfl)) (by unfold Func.isWrapper; first | (rw [if_pos (by decide +kernel)]; kernel_rfl) | (rw [if_neg (by decide +kernel)]; exact ⟨rfl, rfl⟩))
    (fun os started H enc _ => lifted os started H enc)
#print axioms proved
end Go.Proofs.Ytfpcpnjegbmdbaa.wireNil
