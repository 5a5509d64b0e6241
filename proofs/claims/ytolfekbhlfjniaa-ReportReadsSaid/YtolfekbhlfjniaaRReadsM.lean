/- ReportReads returns true for every slice of bytes, and leaves the memory that was there as it was. -/
import Derived.Test.YtolfekbhlfjniaaMROf
import Derived.Test.YtolfekbhlfjniaaMRep
import Derived.Test.YtolfekbhlfjniaaLift
import Derived.Test.YtolfekbhlfjniaaMOf
set_option linter.unusedVariables false
set_option linter.unusedSimpArgs false
namespace Go.Proofs.Ytolfekbhlfjniaa.reportReads
open Go.ChangeShapes Go.WideShapes Go.ChangeAt Go.RowKit

set_option maxRecDepth 4000 in
set_option maxHeartbeats 2000000 in
theorem walk (v : Value) (b : List UInt8) (w : World) (hv : BS w v b) :
    Calls Try.prog 4 #[v] w fun e w' => e = .returned (.bool true) ∧ Below w.heap.size w w' := by
  have HV := Lib.hid hv
  obtain ⟨p, cap, rfl, g1, g2, -⟩ := hv
  unfold maxLen at g2
  obtain ⟨n, hn⟩ : ∃ m, b.length = m := ⟨_, rfl⟩
  rw [hn] at HV g1 ⊢
  have HN := Lib.hid hn
  clear hn
  by_cases h5 : 5000 < n
  · go_enter Try.func4, Try.ntmps4
    go_wp2_with fail
    refine (known17_any _).mono ?_
    rintro e w1 ⟨rfl, hb1⟩
    go_wp2
    go_ret
    exact ⟨rfl, hb1⟩
  · have HSUM := Post.sums_fine (Rep.rowsK b (Rep.manyB b))
    obtain ⟨x0, x1, x2, x3, x4, x5, hx⟩ := Post.six_of HSUM.1
    obtain ⟨m, hmm⟩ : ∃ m, (Post.sums (Rep.rowsK b (Rep.manyB b))).m = m := ⟨_, rfl⟩
    obtain ⟨ev, hev⟩ : ∃ m, (Post.sums (Rep.rowsK b (Rep.manyB b))).e = m := ⟨_, rfl⟩
    have hsm : Post.sums (Rep.rowsK b (Rep.manyB b)) = ⟨ev, m, [x0, x1, x2, x3, x4, x5]⟩ := by rw [← hx, ← hmm, ← hev]
    obtain ⟨bv, hbv⟩ : ∃ bv : Bool, bv = true ↔ Rep.OkB b := ⟨by classical exact decide (Rep.OkB b), by simp⟩
    have HP := Lib.hid (fun W h => rpOf_any (.slice p n cap) b (by have := HN.out; omega) bv hbv ev m x0 x1 x2 x3 x4 x5 hsm W h)
    have HR := Lib.hid (fun W h => rrOf_any (.slice p n cap) b (by have := HN.out; omega) bv hbv ev m x0 x1 x2 x3 x4 x5 hsm W h)
    clear hx hmm hev hsm hbv HSUM
    generalize Rep.rowsK b (Rep.manyB b) = rows at *
    generalize Rep.frB b = F at *
    generalize Rep.toB b = T at *
    cases bv
    · go_enter Try.func4, Try.ntmps4
      go_wp2_with fail
      refine (HP.out _ HV.out).mono ?_
      rintro e w1 ⟨hb1, ⟨_, rfl⟩ | ⟨h, _⟩⟩
      · have HB1 := Lib.hid (balloc hb1 (.cells #[.int .i64 0, .int .i64 0, .slice none 0 0, .int .i64 0, .int .i64 0, .int .i64 0, .int .i64 0, .int .i64 0, .int .i64 0, .int .i64 0] 27 (0, 0)))
        have HR1 := Lib.hid (new_row w1 (.cells #[.int .i64 0, .int .i64 0, .slice none 0 0, .int .i64 0, .int .i64 0, .int .i64 0, .int .i64 0, .int .i64 0, .int .i64 0, .int .i64 0] 27 (0, 0)) _ rfl)
        clear hb1
        go_wp2_with fail
        refine (HR.out _ (HV.out.below HB1.out)).mono ?_
        rintro e w2 ⟨hb2, ⟨_, rfl⟩ | ⟨h, _⟩⟩
        · have HB2 := Lib.hid (HB1.out.trans ((balloc hb2 (.cells #[.int .i64 0, .int .i64 0, .slice none 0 0, .int .i64 0, .int .i64 0, .int .i64 0, .int .i64 0, .int .i64 0, .int .i64 0, .int .i64 0] 27 (0, 0))).mono HB1.out.size))
          have hr1 := row_alloc ((hb2.block w1.heap.size (block_lt HR1.out)).trans HR1.out) (.cells #[.int .i64 0, .int .i64 0, .slice none 0 0, .int .i64 0, .int .i64 0, .int .i64 0, .int .i64 0, .int .i64 0, .int .i64 0, .int .i64 0] 27 (0, 0))
          have hr2 := new_row w2 (.cells #[.int .i64 0, .int .i64 0, .slice none 0 0, .int .i64 0, .int .i64 0, .int .i64 0, .int .i64 0, .int .i64 0, .int .i64 0, .int .i64 0] 27 (0, 0)) _ rfl
          have hc1 := fun j => cell_of_row _ w1.heap.size j _ _ _ hr1
          have hc2 := fun j => cell_of_row _ w2.heap.size j _ _ _ hr2
          clear hb2 hr1 hr2
          go_wp2_with fail
          refine (rSameR_any 0 0 0 0 0 0 0 0 0 0 0 0 0 0 0 0 0 0 [] [] none none 0 0 0 0 true (by simp) _ (LS.nil _) (LS.nil _)).mono ?_
          rintro e w4 ⟨rfl, hb4⟩
          have HB4 := Lib.hid (HB2.out.trans (hb4.mono HB2.out.size))
          clear hb4
          go_wp2_with fail
          refine (known17_any _).mono ?_
          rintro e w6 ⟨rfl, hb6⟩
          go_wp2
          go_ret
          exact ⟨rfl, HB4.out.trans (hb6.mono HB4.out.size)⟩
        · cases h
      · cases h
    · go_enter Try.func4, Try.ntmps4
      go_wp2_with fail
      refine (HP.out _ HV.out).mono ?_
      rintro e w1 ⟨hb1, ⟨h, _⟩ | ⟨_, rv, hls, rfl⟩⟩
      · cases h
      · obtain ⟨p1, c1, hv1⟩ := hls.shape
        subst hv1
        have HL1 := Lib.hid (hls.alloc (.cells #[.int .i64 F, .int .i64 T, (.slice p1 rows.length c1), .int .i64 m, .int .i64 x0, .int .i64 x1, .int .i64 x2, .int .i64 x3, .int .i64 x4, .int .i64 x5] 27 (0, 0)))
        have HB1 := Lib.hid (balloc hb1 (.cells #[.int .i64 F, .int .i64 T, (.slice p1 rows.length c1), .int .i64 m, .int .i64 x0, .int .i64 x1, .int .i64 x2, .int .i64 x3, .int .i64 x4, .int .i64 x5] 27 (0, 0)))
        have HR1 := Lib.hid (new_row w1 (.cells #[.int .i64 F, .int .i64 T, (.slice p1 rows.length c1), .int .i64 m, .int .i64 x0, .int .i64 x1, .int .i64 x2, .int .i64 x3, .int .i64 x4, .int .i64 x5] 27 (0, 0)) _ rfl)
        clear hb1 hls
        go_wp2_with fail
        refine (HR.out _ (HV.out.below HB1.out)).mono ?_
        rintro e w2 ⟨hb2, ⟨h, _⟩ | ⟨_, rv, hls, rfl⟩⟩
        · cases h
        · obtain ⟨p2, c2, hv2⟩ := hls.shape
          subst hv2
          have HL2 := Lib.hid (hls.alloc (.cells #[.int .i64 F, .int .i64 T, (.slice p2 rows.length c2), .int .i64 m, .int .i64 x0, .int .i64 x1, .int .i64 x2, .int .i64 x3, .int .i64 x4, .int .i64 x5] 27 (0, 0)))
          have HL1' := Lib.hid ((HL1.out.below hb2).alloc (.cells #[.int .i64 F, .int .i64 T, (.slice p2 rows.length c2), .int .i64 m, .int .i64 x0, .int .i64 x1, .int .i64 x2, .int .i64 x3, .int .i64 x4, .int .i64 x5] 27 (0, 0)))
          have HB2 := Lib.hid (HB1.out.trans ((balloc hb2 (.cells #[.int .i64 F, .int .i64 T, (.slice p2 rows.length c2), .int .i64 m, .int .i64 x0, .int .i64 x1, .int .i64 x2, .int .i64 x3, .int .i64 x4, .int .i64 x5] 27 (0, 0))).mono HB1.out.size))
          have hr1 := row_alloc ((hb2.block w1.heap.size (block_lt HR1.out)).trans HR1.out) (.cells #[.int .i64 F, .int .i64 T, (.slice p2 rows.length c2), .int .i64 m, .int .i64 x0, .int .i64 x1, .int .i64 x2, .int .i64 x3, .int .i64 x4, .int .i64 x5] 27 (0, 0))
          have hr2 := new_row w2 (.cells #[.int .i64 F, .int .i64 T, (.slice p2 rows.length c2), .int .i64 m, .int .i64 x0, .int .i64 x1, .int .i64 x2, .int .i64 x3, .int .i64 x4, .int .i64 x5] 27 (0, 0)) _ rfl
          have hc1 := fun j => cell_of_row _ w1.heap.size j _ _ _ hr1
          have hc2 := fun j => cell_of_row _ w2.heap.size j _ _ _ hr2
          clear hb2 hr1 hr2 hls
          go_wp2_with fail
          refine (rSameR_any F T F T m x0 x1 x2 x3 x4 x5 m x0 x1 x2 x3 x4 x5 rows rows p1 p2 rows.length rows.length c1 c2 true (by simp) _ HL1'.out HL2.out).mono ?_
          rintro e w4 ⟨rfl, hb4⟩
          have HB4 := Lib.hid (HB2.out.trans (hb4.mono HB2.out.size))
          clear hb4
          go_wp2_with fail
          refine (known17_any _).mono ?_
          rintro e w6 ⟨rfl, hb6⟩
          go_wp2
          go_ret
          exact ⟨rfl, HB4.out.trans (hb6.mono HB4.out.size)⟩
set_option maxRecDepth 100000 in
theorem lifted (os : Os) (started : os.Started) (H : Type) (enc : TypeId × Value → H) :
    ReturnsInHanded {} Try.checked os 4 .any (Rows.reportReadsSpec.pre6 enc Try.prog Try.f4 Rows.reportReadsRow.domain false) (Rows.reportReadsSpec.post enc Try.prog Try.f4 false true false false) := by
  refine returnsInHanded_of_change (C := Try.checked) own started (by kernel_rfl) Try.func4
    (ChangeSpec.witness6 (enc := enc) (C := Try.checked) false ⟨#[], #[.slice none 0 0], []⟩ 8 (by kernel_rfl) (by kernel_rfl) (by kernel_rfl) (by kernel_rfl)) ?_
  intro W base args ds gs before hval0 hW hcnd _
  have hval : ∀ (j : Nat) t v, Try.f4.params[j]? = some t → args[j]? = some v → Value.okWide Try.prog W .any base t v := hval0
  have hW' := hW
  obtain ⟨p, q, hA0, hV, rfl, hfz, hnd⟩ := hW
  have hA : DataW.TrodAll enc Try.prog W 0 (fun _ => true) true Try.f4.params.toList args.toList ds p := hA0
  rw [Try.params4] at hA hval
  obtain ⟨v0, vs0, d0, ds0, p0, q0, hargs, rfl, rfl, h0, r0⟩ := trodAll_cons hA
  obtain ⟨rfl, rfl, rfl⟩ := trodAll_nil r0
  obtain rfl : args = #[v0] := by cases args; simp_all
  obtain ⟨b, hb⟩ := open_bytes (hval 0 _ v0 rfl rfl) h0
  clear hA0 hval0
  refine (walk v0 b W hb).mono fun e W' ⟨he, hg⟩ => ?_
  subst he
  exact ⟨_, rfl, post_law laidOut rfl hW' ⟨rfl, rfl, rfl⟩ (by kernel_rfl) hg Try.underlying4 rfl⟩

theorem proved : Rows.ReportReadsSaid :=
  OpenClaim.holds_of_wide 4 Try.f4 rfl rfl rfl rfl rfl rfl rfl ⟨rfl, rfl, rfl, rfl, rfl⟩ rfl rfl rfl rfl rfl (by kernel_rfl) Try.func4 (by kernel_rfl)
    (of_decide_eq_true (by kernel_rfl)) (by unfold Func.isWrapper; first | (rw [if_pos (by decide +kernel)]; kernel_rfl) | (rw [if_neg (by decide +kernel)]; exact ⟨rfl, rfl⟩))
    (fun os started H enc _ => lifted os started H enc)
#print axioms proved
end Go.Proofs.Ytolfekbhlfjniaa.reportReads
