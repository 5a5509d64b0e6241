/- PostingSums returns true for every slice of postings, and leaves the memory that was there as it was. -/
import Derived.Test.YthpcillamglmiaaSumC
set_option linter.unusedVariables false
set_option linter.unusedSimpArgs false
namespace Go.Proofs.Ythpcillamglmiaa
open Go.ChangeShapes Go.WideShapes Go.ChangeAt Go.RowKit

theorem eqTot (x0 x1 x2 x3 x4 x5 x6 : Int) (w : World) : (binOp .eql 37 (.agg #[.int .i64 x0, .int .i64 x1, .int .i64 x2, .int .i64 x3, .int .i64 x4, .int .i64 x5, .int .i64 x6]) (.agg #[.int .i64 x0, .int .i64 x1, .int .i64 x2, .int .i64 x3, .int .i64 x4, .int .i64 x5, .int .i64 x6])).run Try.prog w = .ok (.bool true) w := by
  have hS : Try.prog.underlying 37 = some (.struct (Try.prog.fieldsOf 37)) := by kernel_rfl
  have hp : Try.prog.stoodInHeld 37 = false := by kernel_rfl
  rw [run_eql_struct, show (10000 : Nat) = 9999 + 1 from rfl, run_equalIn_agg w 9999 37 _ _ hS hp]
  simp only [Program.fieldsOf, Try.underlying37]
  go_simp
theorem guardTot (x y : Operand) (xs ys : Array Value) (w : World) : (eqGuard .eql 37 x y (.agg xs) (.agg ys)).run Try.prog w = .ok () w := run_eqGuard_agg w _ _ _ _ _ _ (by kernel_rfl)
end Go.Proofs.Ythpcillamglmiaa
namespace Go.Proofs.Ythpcillamglmiaa.postingSums
open Go.ChangeShapes Go.WideShapes Go.ChangeAt Go.RowKit

set_option maxRecDepth 4000 in
set_option maxHeartbeats 1000000 in
theorem walk (l : List Pst) (p : Option Addr) (n cap : Nat) (hn : n = l.length) (w : World) (hs : PS w (.slice p n cap) l) :
    Calls Try.prog 4 #[.slice p n cap] w fun e w' => e = .returned (.bool true) ∧ Below w.heap.size w w' := by
  have HF := Lib.hid (Post.sums_fine l)
  obtain ⟨x0, x1, x2, x3, x4, x5, hx⟩ := Post.six_of HF.out.1
  obtain ⟨m, hm⟩ : ∃ m, (Post.sums l).m = m := ⟨_, rfl⟩
  obtain ⟨ev, he⟩ : ∃ m, (Post.sums l).e = m := ⟨_, rfl⟩
  have hsum : Post.sums l = ⟨ev, m, [x0, x1, x2, x3, x4, x5]⟩ := by rw [← hx, ← hm, ← he]
  rw [hx] at HF
  have HI := Lib.hid (fun W hs => sum_any l p n cap hn W hs ev m x0 x1 x2 x3 x4 x5 hsum)
  have HR := Lib.hid (fun W hs => rSum_any l p n cap hn W hs ev m x0 x1 x2 x3 x4 x5 hsum)
  have HS := Lib.hid hs
  have hcap : n ≤ cap ∧ cap ≤ maxLen := by
    obtain ⟨p', cap', e, h2, h3, h4, h5⟩ := hs
    injection e with e1 e2 e3
    subst e3
    exact ⟨by omega, h3⟩
  have HY := Lib.hid (fun i => @Post.any_getD _ _ HF.out.2.1 i)
  have v0 : -1152921504606846976 ≤ x0 ∧ x0 ≤ 1152921504606846976 := HY.out 0 (by simp)
  have v1 : -1152921504606846976 ≤ x1 ∧ x1 ≤ 1152921504606846976 := HY.out 1 (by simp)
  have v2 : -1152921504606846976 ≤ x2 ∧ x2 ≤ 1152921504606846976 := HY.out 2 (by simp)
  have v3 : -1152921504606846976 ≤ x3 ∧ x3 ≤ 1152921504606846976 := HY.out 3 (by simp)
  have v4 : -1152921504606846976 ≤ x4 ∧ x4 ≤ 1152921504606846976 := HY.out 4 (by simp)
  have v5 : -1152921504606846976 ≤ x5 ∧ x5 ≤ 1152921504606846976 := HY.out 5 (by simp)
  have h0 : x0 + x1 + x2 + x3 + x4 + x5 = 0 := by have := HF.out.2.2; simp [Post.sum] at this; omega
  clear hx hm he hsum hs HF HY hn
  have h3 := hcap.2
  unfold maxLen at h3
  have hnc := hcap.1
  clear hcap
  have hE := eqTot m x0 x1 x2 x3 x4 x5
  have hG := guardTot
  by_cases h60 : 60 < n
  · go_enter Try.func4, Try.ntmps4
    go_wp2_with fail
    refine (known14_any _).mono ?_
    rintro e w1 ⟨rfl, hb1⟩
    go_wp2
    go_ret
    exact ⟨rfl, hb1⟩
  · go_enter Try.func4, Try.ntmps4
    go_wp2_with fail
    refine (HI.out _ HS.out).mono ?_
    rintro e w1 ⟨rfl, hb1⟩
    have HB1 := Lib.hid (balloc hb1 (.cells #[.int .i64 m, .int .i64 x0, .int .i64 x1, .int .i64 x2, .int .i64 x3, .int .i64 x4, .int .i64 x5] 37 (0, 0)))
    clear hb1
    go_wp2_with fail
    refine (HR.out _ (HS.out.below HB1.out)).mono ?_
    rintro e w2 ⟨rfl, hb2⟩
    have hc2 := (bcell hb2).1
    have hz2 : w1.heap.size < w2.heap.size := by have := hb2.size; simp at this; omega
    have HB2 := Lib.hid (balloc (below_call HB1.out hb2) (.cells #[.int .i64 m, .int .i64 x0, .int .i64 x1, .int .i64 x2, .int .i64 x3, .int .i64 x4, .int .i64 x5] 37 (0, 0)))
    clear hb2
    go_wp2_with fail
    refine (known14_any _).mono ?_
    rintro e w3 ⟨rfl, hb3⟩
    go_wp2
    go_ret
    exact ⟨rfl, below_call HB2.out hb3⟩
set_option maxRecDepth 100000 in
theorem lifted (os : Os) (started : os.Started) (H : Type) (enc : TypeId × Value → H) :
    ReturnsInHanded {} Try.checked os 4 .any (Rows.postingSumsSpec.pre6 enc Try.prog Try.f4 Rows.postingSumsRow.domain false) (Rows.postingSumsSpec.post enc Try.prog Try.f4 false true false false) := by
  refine returnsInHanded_of_change (C := Try.checked) own started (by kernel_rfl) Try.func4
    (ChangeSpec.witness6 (enc := enc) (C := Try.checked) false ⟨#[], #[.slice none 0 0], []⟩ 8 (by kernel_rfl) (by kernel_rfl) (by kernel_rfl) (by kernel_rfl)) ?_
  intro W base args ds gs before hval0 hW hcnd _
  have hval : ∀ (j : Nat) t v, Try.f4.params[j]? = some t → args[j]? = some v → Value.okWide Try.prog W .any base t v := hval0
  have hW' := hW
  obtain ⟨p, q, hA0, hV, rfl, hfz, hnd⟩ := hW
  have hA : DataW.TrodAll enc Try.prog W 0 (fun _ => true) true Try.f4.params.toList args.toList ds p := hA0
  rw [Try.params4] at hA hval
  obtain ⟨v0, vs0, d0, ds0, p0, q0, hargs, rfl, rfl, h0, r0⟩ := trodAll_cons hA
  obtain ⟨rfl, rfl, rfl⟩ := trodAll_nil r0
  obtain rfl : args = #[v0] := by cases args; simp_all
  obtain ⟨l, p', n, cap, rfl, hn, hs⟩ := open_posts' (hval 0 _ v0 rfl rfl) h0
  clear hA0 hval0
  refine (walk l p' n cap hn W hs).mono fun e W' ⟨he, hg⟩ => ?_
  subst he
  exact ⟨_, rfl, post_law laidOut rfl hW' ⟨rfl, rfl, rfl⟩ (by kernel_rfl) hg Try.underlying4 rfl⟩

theorem proved : Rows.PostingSumsSaid :=
  OpenClaim.holds_of_wide 4 Try.f4 rfl rfl rfl rfl rfl rfl rfl ⟨rfl, rfl, rfl, rfl, rfl⟩ rfl rfl rfl rfl rfl (by kernel_rfl) Try.func4 (by kernel_rfl)
    (of_decide_eq_true (by kernel_rfl)) (by unfold Func.isWrapper; first | (rw [if_pos (by decide +kernel)]; kernel_rfl) | (rw [if_neg (by decide +kernel)]; exact ⟨rfl, rfl⟩))
    (fun os started H enc _ => lifted os started H enc)
#print axioms proved
end Go.Proofs.Ythpcillamglmiaa.postingSums
