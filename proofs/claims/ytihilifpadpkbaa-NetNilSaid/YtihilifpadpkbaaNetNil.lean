/- NetNil returns true, and leaves the memory that was there as it was. -/
import Derived.Test.YtihilifpadpkbaaNtN
import Derived.Test.YtihilifpadpkbaaLift
set_option linter.unusedVariables false
set_option linter.unusedSimpArgs false
namespace Go.Proofs.Ytihilifpadpkbaa.netNil
open Go.ChangeShapes Go.WideShapes Go.ChangeAt Go.RowKit

theorem NoT.at {w : World} {v : Value} (h : v = .pointer none ∨ ∃ g, v = .pointer (some ⟨g, 0, none⟩) ∧ w.heap[g]? = some (.cells #[.int .i64 0, .bool false, .slice none 0 0] 64 (0, 0))) : NoT w v ∧ ∀ o, NoT (w.alloc o) v := by
  rcases h with rfl | ⟨g, rfl, h⟩
  · exact ⟨no_nil _, fun o => no_nil _⟩
  · exact ⟨no_zero h, fun o => no_zero (row_allocS h o)⟩

set_option maxRecDepth 10000 in
set_option maxHeartbeats 8000000 in
theorem walk (w : World) : Calls Try.prog 7 #[] w fun e w' => e = .returned (.bool true) ∧ Below w.heap.size w w' := by
  have hz := row_allocS (new_rowW w (.cells #[.int .i64 0, .bool false, .slice none 0 0] 64 (0, 0)) _ rfl) (.cells #[.pointer none, .pointer (some ⟨w.heap.size, 0, none⟩)] 36 (0, 0))
  have hl := new_rowW (w.alloc (.cells #[.int .i64 0, .bool false, .slice none 0 0] 64 (0, 0))) (.cells #[.pointer none, .pointer (some ⟨w.heap.size, 0, none⟩)] 36 (0, 0)) (w.heap.size + 1) (by simp)
  have HB0 := Lib.hid (((Below.refl w.heap.size w).alloc (Nat.le_refl _) (.cells #[.int .i64 0, .bool false, .slice none 0 0] 64 (0, 0))).alloc (by simp) (.cells #[.pointer none, .pointer (some ⟨w.heap.size, 0, none⟩)] 36 (0, 0)))
  have HZ := Lib.hid hz; have HL := Lib.hid hl
  clear hz hl
  go_enter Try.func7, Try.ntmps7
  go_wp2
  generalize (w.alloc (.cells #[.int .i64 0, .bool false, .slice none 0 0] 64 (0, 0))).alloc (.cells #[.pointer none, .pointer (some ⟨w.heap.size, 0, none⟩)] 36 (0, 0)) = w0 at *
  go_loopw [3] (fun i wr => ∃ k : Nat, k ≤ 2 ∧ i = .int .i64 k ∧ Below w0.heap.size w0 wr) (fun i _ => 2 - (intOf i).toNat)
  case atStart => exact ⟨0, Nat.zero_le _, rfl, Below.refl _ _⟩
  case round =>
    obtain ⟨k, hk, rfl, hbw⟩ := hrel
    have HBW := Lib.hid hbw
    have HZr := Lib.hid ((hbw.block _ (block_lt HZ.out)).trans HZ.out)
    have hlr := (hbw.block _ (block_lt HL.out)).trans HL.out
    have c0 := cell_of_row wr (w.heap.size + 1) 0 _ _ _ hlr
    have c1 := cell_of_row wr (w.heap.size + 1) 1 _ _ _ hlr
    have HZ2 := Lib.hid (fun o => no_zero (row_allocS HZr.out o))
    have HB1 := Lib.hid (HB0.out.trans (hbw.mono HB0.out.size))
    clear hbw hlr
    rcases (show k = 0 ∨ k = 1 ∨ k = 2 by omega) with rfl | rfl | rfl
    · have HNO := Lib.hid (no_nil wr)
      have HNO2 := Lib.hid (fun o => no_nil (wr.alloc o))
      clear c1
      go_wp2_with (first | (go_at_call 12; with_reducible refine (no_calm _ _ true HNO.out).mono ?_; rintro e wx ⟨rfl, rfl⟩) | (go_at_call 11; with_reducible refine (no_send _ _ _ HNO.out).mono ?_; rintro e wx ⟨rfl, rfl⟩) | (go_at_call 13; with_reducible refine (no_tick _ _ _ (HNO2.out _)).mono ?_; rintro e wx ⟨rfl, rfl⟩) | (go_at_call 24; with_reducible refine (no_iscalm _ _ (HNO2.out _)).mono ?_; rintro e wx ⟨rfl, rfl⟩) | (go_at_call 25; with_reducible refine (no_hold _ _ (HNO2.out _)).mono ?_; rintro e wx ⟨rfl, rfl⟩) | (go_at_call 22; with_reducible refine (no_waiting _ _ (HNO2.out _)).mono ?_; rintro e wx ⟨rfl, rfl⟩) | (go_at_call 14; with_reducible refine (no_len _ _ (HNO2.out _)).mono ?_; rintro e wx ⟨rfl, rfl⟩) | (go_at_call 19; with_reducible refine (no_copy _ _ (HNO2.out _)).mono ?_; rintro e wx ⟨rfl, rfl⟩) | (go_at_call 21; with_reducible refine (same_ff _ _ _ (HNO2.out _) (no_nil _)).mono ?_; rintro e wx ⟨rfl, rfl⟩) | (go_at_call 21; with_reducible refine (same_ff _ _ _ (HNO2.out _) (HZ2.out _)).mono ?_; rintro e wx ⟨rfl, rfl⟩))
      go_roundw
      case rel => exact ⟨1, by omega, by go_num, HBW.out.alloc HBW.out.size _⟩
      case measure => simp [intOf]
    · have HNO := Lib.hid (no_zero HZr.out)
      have HNO2 := Lib.hid (fun o => no_zero (row_allocS HZr.out o))
      clear c0
      go_wp2_with (first | (go_at_call 12; with_reducible refine (no_calm _ _ true HNO.out).mono ?_; rintro e wx ⟨rfl, rfl⟩) | (go_at_call 11; with_reducible refine (no_send _ _ _ HNO.out).mono ?_; rintro e wx ⟨rfl, rfl⟩) | (go_at_call 13; with_reducible refine (no_tick _ _ _ (HNO2.out _)).mono ?_; rintro e wx ⟨rfl, rfl⟩) | (go_at_call 24; with_reducible refine (no_iscalm _ _ (HNO2.out _)).mono ?_; rintro e wx ⟨rfl, rfl⟩) | (go_at_call 25; with_reducible refine (no_hold _ _ (HNO2.out _)).mono ?_; rintro e wx ⟨rfl, rfl⟩) | (go_at_call 22; with_reducible refine (no_waiting _ _ (HNO2.out _)).mono ?_; rintro e wx ⟨rfl, rfl⟩) | (go_at_call 14; with_reducible refine (no_len _ _ (HNO2.out _)).mono ?_; rintro e wx ⟨rfl, rfl⟩) | (go_at_call 19; with_reducible refine (no_copy _ _ (HNO2.out _)).mono ?_; rintro e wx ⟨rfl, rfl⟩) | (go_at_call 21; with_reducible refine (same_ff _ _ _ (HNO2.out _) (no_nil _)).mono ?_; rintro e wx ⟨rfl, rfl⟩) | (go_at_call 21; with_reducible refine (same_ff _ _ _ (HNO2.out _) (HZ2.out _)).mono ?_; rintro e wx ⟨rfl, rfl⟩))
      go_roundw
      case rel => exact ⟨2, by omega, by go_num, HBW.out.alloc HBW.out.size _⟩
      case measure => simp [intOf]
    · clear c0 c1
      go_wp2_with (first
        | (go_at_call 10; refine (nnew_any 1 (by omega) (by omega) _).mono ?_; rintro e w2 ⟨rfl, hn, hb⟩; have HN2 := Lib.hid (nthere_any _ _ _ _ _ _ _ hn (by omega)); have HZ3 := Lib.hid (no_zero ((hb.block _ (block_lt HZr.out)).trans HZr.out)); have HB2 := Lib.hid (HB1.out.trans (hb.mono HB1.out.size)); clear hn hb)
        | (go_at_call 21; with_reducible refine (same_tf _ _ _ HN2.out (no_nil _)).mono ?_; rintro e wx ⟨rfl, rfl⟩)
        | (go_at_call 21; with_reducible refine (same_ft _ _ _ HZ3.out HN2.out).mono ?_; rintro e wx ⟨rfl, rfl⟩)
        | (go_at_call 9; refine (known23_any _).mono ?_; rintro e w9 ⟨rfl, hb9⟩; have HB9 := Lib.hid (HB2.out.trans (hb9.mono HB2.out.size)); clear hb9))
      go_ret
      exact ⟨rfl, HB9.out⟩

set_option maxRecDepth 100000 in
theorem lifted (os : Os) (started : os.Started) (H : Type) (enc : TypeId × Value → H) :
    ReturnsInHanded {} Try.checked os 7 .any (Rows.netNilSpec.pre6 enc Try.prog Try.f7 Rows.netNilRow.domain false) (Rows.netNilSpec.post enc Try.prog Try.f7 false true false false) := by
  refine returnsInHanded_of_change (C := Try.checked) own started (by kernel_rfl) Try.func7
    (ChangeSpec.witness6 (enc := enc) (C := Try.checked) false ⟨#[], #[], []⟩ 8 (by kernel_rfl) (by kernel_rfl) (by kernel_rfl) (by kernel_rfl)) ?_
  intro W base args ds gs before hval0 hW hcnd _
  have hval : ∀ (j : Nat) t v, Try.f7.params[j]? = some t → args[j]? = some v → Value.okWide Try.prog W .any base t v := hval0
  have hW' := hW
  obtain ⟨p, q, hA0, hV, rfl, hfz, hnd⟩ := hW
  have hA : DataW.TrodAll enc Try.prog W 0 (fun _ => true) true Try.f7.params.toList args.toList ds p := hA0
  rw [Try.params7] at hA hval
  obtain ⟨rfl, rfl, rfl⟩ := trodAll_none hA
  clear hA0 hval0
  refine (walk  W).mono fun e W' ⟨he, hg⟩ => ?_
  subst he
  exact ⟨_, rfl, post_law laidOut rfl hW' ⟨rfl, rfl, rfl⟩ (by kernel_rfl) hg Try.underlying4 rfl⟩

theorem proved : Rows.NetNilSaid :=
  OpenClaim.holds_of_wide 7 Try.f7 rfl rfl rfl rfl rfl rfl rfl ⟨rfl, rfl, rfl, rfl, rfl⟩ rfl rfl rfl rfl rfl (by kernel_rfl) Try.func7 (by kernel_rfl)
    (of_decide_eq_true (by kernel_rfl)) (by unfold Func.isWrapper; first | (rw [if_pos (by decide +kernel)]; kernel_rfl) | (rw [if_neg (by decide +kernel)]; exact ⟨rfl, rfl⟩))
    (fun os started H enc _ => lifted os started H enc)
#print axioms proved
end Go.Proofs.Ytihilifpadpkbaa.netNil
