/- Contract of the report chapter's rows (known). -/
import Derived.Test.YtajpggnmhkpbkaaRfw36
import Derived.Test.YtajpggnmhkpbkaaRfw30

set_option linter.unusedVariables false
set_option linter.unusedSimpArgs false
namespace Go.Proofs.Ytajpggnmhkpbkaa
open Go.RowKit

namespace Rep
def kA : Pst := ⟨2, 1230000000095, 1, 3, 0, 5, -5, 0, 0, 0⟩
def kB : Pst := ⟨3, 1230000000014, 2, 3, 0, 5, -5, 0, 0, 0⟩
def kC : Pst := ⟨1, 1230000000014, 1, 3, 0, 5, -5, 0, 0, 0⟩
theorem k_wf : WF [kA, kB, kC] := by
  intro z hz
  simp only [List.mem_cons, List.not_mem_nil, or_false] at hz
  rcases hz with rfl | rfl | rfl <;> exact ⟨by decide, by decide, by decide, by decide, by decide, by decide, by decide, by decide, by decide, by decide⟩
theorem k_wf2 : WF [kB, kA] := fun z hz => k_wf z (by simp only [List.mem_cons, List.not_mem_nil, or_false] at hz ⊢; rcases hz with rfl | rfl <;> simp)
theorem k_fine : FineP [kA, kB, kC] := by
  rw [fine_pairwise]
  refine ⟨?_, by simp [alike, kA, kB, kC]⟩
  intro z hz
  simp only [List.mem_cons, List.not_mem_nil, or_false] at hz
  rcases hz with rfl | rfl | rfl <;> decide
theorem k_filter : [kA, kB, kC].filter (within 2 3) = [kA, kB] := by simp [within, kA, kB, kC]
theorem k_mix : Srt.Mix keyP ([kA, kB, kC].filter (within 2 3)) [kB, kA] := by
  rw [k_filter]
  exact Srt.Mix.swap (x := [kA]) (y := [kB]) (by simp [keyP, kA, kB])
theorem k_up : Srt.Up keyP [kB, kA] := by
  unfold Srt.Up
  simp [keyP, kA, kB]
theorem k_sums : Post.sums [kB, kA] = ⟨0, 2, [0, 10, -10, 0, 0, 0]⟩ := by rfl
end Rep

set_option maxHeartbeats 1000000 in
theorem fly_any (d s q t : Int) (ht : Num.mkN 123 s = t) (w : World) : Calls Try.prog 35 #[.int .i64 d, .int .i64 s, .int .i64 q] w fun e w' => e = .returned (.agg #[.int .i64 d, .int .u64 t, .int .i64 q, .int .i64 3, .int .i64 0, .int .i64 5, .int .i64 (-5), .int .i64 0, .int .i64 0, .int .i64 0]) ∧ Below w.heap.size w w' := by
  have HT := Lib.hid ht
  go_enter Try.func35, Try.ntmps35
  go_wp2_with fail
  refine (rMake_any _ _ _).mono ?_
  rintro e w1 ⟨rfl, hb1⟩
  rw [HT.out]
  have hrow := (hb1.block w.heap.size (by simp)).trans (new_row w (.cells #[.int .i64 0, .int .u64 0, .int .i64 0, .int .i64 0, .int .i64 0, .int .i64 0, .int .i64 0, .int .i64 0, .int .i64 0, .int .i64 0] 68 (0, 0)) _ rfl)
  have HB1 := Lib.hid (((Below.refl w.heap.size w).alloc (Nat.le_refl _) _).trans (hb1.mono (by simp)))
  have hz := block_lt hrow
  have HR := Lib.hid hrow
  have hc := fun j => cell_of_row w1 w.heap.size j _ _ _ hrow
  have hf := fun j => frozen_of_row w1 w.heap.size j _ _ hrow
  clear hb1 hrow ht
  go_wp2
  have hrow := ten_row HR.out (.int .i64 d) (.int .u64 t) (.int .i64 q) (.int .i64 3) (.int .i64 0) (.int .i64 5) (.int .i64 (-5)) (.int .i64 0) (.int .i64 0) (.int .i64 0)
  refine bodyPost_ret (v := .agg #[.int .i64 d, .int .u64 t, .int .i64 q, .int .i64 3, .int .i64 0, .int .i64 5, .int .i64 (-5), .int .i64 0, .int .i64 0, .int .i64 0]) (by simp [results, Try.results35, go_sem, fun i => cell_of_row _ _ i _ _ _ hrow]) rfl ⟨rfl, ?_⟩
  exact ten_below HB1.out (Nat.le_refl _) _ _ _ _ _ _ _ _ _ _

theorem eqSelf (x : Pst) (w : World) : (binOp .eql 68 (.agg x.arr) (.agg x.arr)).run Try.prog w = .ok (.bool true) w := by
  have hS : Try.prog.underlying 68 = some (.struct (Try.prog.fieldsOf 68)) := by kernel_rfl
  have hp : Try.prog.stoodInHeld 68 = false := by kernel_rfl
  unfold Pst.arr
  rw [run_eql_struct, show (10000 : Nat) = 9999 + 1 from rfl, run_equalIn_agg w 9999 68 _ _ hS hp]
  simp only [Program.fieldsOf, Try.underlying68]
  go_simp

set_option maxRecDepth 4000 in
set_option maxHeartbeats 1000000 in
theorem known17_any (w : World) : Calls Try.prog 15 #[] w fun e w' => e = .returned (.bool true) ∧ Below w.heap.size w w' := by
  have HFA : Hid (∀ W, Calls Try.prog 35 #[.int .i64 2, .int .i64 9, .int .i64 1] W _) := Lib.hid (fun W => fly_any 2 9 1 1230000000095 (by decide) W)
  have HFB : Hid (∀ W, Calls Try.prog 35 #[.int .i64 3, .int .i64 1, .int .i64 2] W _) := Lib.hid (fun W => fly_any 3 1 2 1230000000014 (by decide) W)
  have HFC : Hid (∀ W, Calls Try.prog 35 #[.int .i64 1, .int .i64 1, .int .i64 1] W _) := Lib.hid (fun W => fly_any 1 1 1 1230000000014 (by decide) W)
  have HMK : Hid (∀ p W, PS W (.slice p 3 3) [Rep.kA, Rep.kB, Rep.kC] → _) := Lib.hid (fun p W h => make_fit 2 3 [Rep.kA, Rep.kB, Rep.kC] p 3 3 (by decide) rfl Rep.k_fine [Rep.kB, Rep.kA] Rep.k_mix Rep.k_up 0 2 0 10 (-10) 0 0 0 Rep.k_sums W h)
  have hEA : ∀ W, (binOp .eql 68 (.agg #[.int .i64 2, .int .u64 1230000000095, .int .i64 1, .int .i64 3, .int .i64 0, .int .i64 5, .int .i64 (-5), .int .i64 0, .int .i64 0, .int .i64 0]) (.agg #[.int .i64 2, .int .u64 1230000000095, .int .i64 1, .int .i64 3, .int .i64 0, .int .i64 5, .int .i64 (-5), .int .i64 0, .int .i64 0, .int .i64 0])).run Try.prog W = .ok (.bool true) W := fun W => eqSelf Rep.kA W
  have hEB : ∀ W, (binOp .eql 68 (.agg #[.int .i64 3, .int .u64 1230000000014, .int .i64 2, .int .i64 3, .int .i64 0, .int .i64 5, .int .i64 (-5), .int .i64 0, .int .i64 0, .int .i64 0]) (.agg #[.int .i64 3, .int .u64 1230000000014, .int .i64 2, .int .i64 3, .int .i64 0, .int .i64 5, .int .i64 (-5), .int .i64 0, .int .i64 0, .int .i64 0])).run Try.prog W = .ok (.bool true) W := fun W => eqSelf Rep.kB W
  have hG := guardPst'
  go_enter Try.func15, Try.ntmps15
  go_wp2_with fail
  refine (HFA.out _).mono ?_
  rintro e w1 ⟨rfl, hb1⟩
  go_wp2_with fail
  refine (HFB.out _).mono ?_
  rintro e w2 ⟨rfl, hb2⟩
  replace hb1 := below_call hb1 hb2
  go_wp2_with fail
  refine (HFC.out _).mono ?_
  rintro e w3 ⟨rfl, hb3⟩
  replace hb1 := below_call hb1 hb3
  have HB3 := Lib.hid hb1
  clear hb1 hb2 hb3
  go_wp2_with fail
  have hb4 := balloc HB3.out (.cells #[.int .i64 2, .int .u64 1230000000095, .int .i64 1, .int .i64 3, .int .i64 0, .int .i64 5, .int .i64 (-5), .int .i64 0, .int .i64 0, .int .i64 0, .int .i64 3, .int .u64 1230000000014, .int .i64 2, .int .i64 3, .int .i64 0, .int .i64 5, .int .i64 (-5), .int .i64 0, .int .i64 0, .int .i64 0, .int .i64 1, .int .u64 1230000000014, .int .i64 1, .int .i64 3, .int .i64 0, .int .i64 5, .int .i64 (-5), .int .i64 0, .int .i64 0, .int .i64 0] 68 (0, 0))
  have hrow := new_row w3 (.cells #[.int .i64 2, .int .u64 1230000000095, .int .i64 1, .int .i64 3, .int .i64 0, .int .i64 5, .int .i64 (-5), .int .i64 0, .int .i64 0, .int .i64 0, .int .i64 3, .int .u64 1230000000014, .int .i64 2, .int .i64 3, .int .i64 0, .int .i64 5, .int .i64 (-5), .int .i64 0, .int .i64 0, .int .i64 0, .int .i64 1, .int .u64 1230000000014, .int .i64 1, .int .i64 3, .int .i64 0, .int .i64 5, .int .i64 (-5), .int .i64 0, .int .i64 0, .int .i64 0] 68 (0, 0)) _ rfl
  have hps := ps_of_ls (RowL.slice (cap := 3) (RowL.of_block hrow Pst.cells_length (by decide) rfl) Pst.cells_length (by decide) (by decide) (by decide)) Rep.k_wf
  refine (HMK.out _ _ hps).mono ?_
  rintro e w5 ⟨v, hmine, hb5, he⟩
  obtain ⟨_, rfl⟩ := he.resolve_right (fun h => h.1 trivial)
  clear hb4 hps hrow
  have HB4 : Hid (Below w.heap.size w w5) := Lib.hid ((balloc HB3.out (.cells #[.int .i64 2, .int .u64 1230000000095, .int .i64 1, .int .i64 3, .int .i64 0, .int .i64 5, .int .i64 (-5), .int .i64 0, .int .i64 0, .int .i64 0, .int .i64 3, .int .u64 1230000000014, .int .i64 2, .int .i64 3, .int .i64 0, .int .i64 5, .int .i64 (-5), .int .i64 0, .int .i64 0, .int .i64 0, .int .i64 1, .int .u64 1230000000014, .int .i64 1, .int .i64 3, .int .i64 0, .int .i64 5, .int .i64 (-5), .int .i64 0, .int .i64 0, .int .i64 0] 68 (0, 0))).trans (hb5.mono (by have := HB3.out.size; simp <;> omega)))
  have hps := ps_of_ls (hmine.ls Pst.cells_length (by decide)) Rep.k_wf2
  rcases hmine with ⟨_, hnil⟩ | ⟨g, cg, rfl, hg, hlt, hc4, hx4, hrw⟩
  · cases hnil
  obtain ⟨bB, oB, eB, hblB, hatB⟩ := ps_at (hps.below ((Below.refl w5.heap.size w5).alloc (Nat.le_refl _) (.cells #[.int .i64 2, .int .i64 3, (.slice (some ⟨g, 0, none⟩) 2 cg), .int .i64 2, .int .i64 0, .int .i64 10, .int .i64 (-10), .int .i64 0, .int .i64 0, .int .i64 0] 43 (0, 0)))) (k := 0) rfl
  obtain ⟨bA, oA, eA, hblA, hatA⟩ := ps_at (hps.below ((Below.refl w5.heap.size w5).alloc (Nat.le_refl _) (.cells #[.int .i64 2, .int .i64 3, (.slice (some ⟨g, 0, none⟩) 2 cg), .int .i64 2, .int .i64 0, .int .i64 10, .int .i64 (-10), .int .i64 0, .int .i64 0, .int .i64 0] 43 (0, 0)))) (k := 1) rfl
  injection eB with eB; injection eB with eB1 eB2 _
  injection eA with eA; injection eA with eA1 eA2 _
  subst eB1 eB2 eA1 eA2
  have HB6 := Lib.hid (balloc HB4.out (.cells #[.int .i64 2, .int .i64 3, (.slice (some ⟨g, 0, none⟩) 2 cg), .int .i64 2, .int .i64 0, .int .i64 10, .int .i64 (-10), .int .i64 0, .int .i64 0, .int .i64 0] 43 (0, 0)))
  have hr6 := new_row w5 (.cells #[.int .i64 2, .int .i64 3, (.slice (some ⟨g, 0, none⟩) 2 cg), .int .i64 2, .int .i64 0, .int .i64 10, .int .i64 (-10), .int .i64 0, .int .i64 0, .int .i64 0] 43 (0, 0)) _ rfl
  have hr2 : (w5.alloc (.cells #[.int .i64 2, .int .i64 3, (.slice (some ⟨g, 0, none⟩) 2 cg), .int .i64 2, .int .i64 0, .int .i64 10, .int .i64 (-10), .int .i64 0, .int .i64 0, .int .i64 0] 43 (0, 0))).cell? ⟨w5.heap.size, 2, none⟩ = some _ := cell_of_row _ w5.heap.size 2 _ _ _ hr6
  have hr6 : (w5.alloc (.cells #[.int .i64 2, .int .i64 3, (.slice (some ⟨g, 0, none⟩) 2 cg), .int .i64 2, .int .i64 0, .int .i64 10, .int .i64 (-10), .int .i64 0, .int .i64 0, .int .i64 0] 43 (0, 0))).cell? ⟨w5.heap.size, 6, none⟩ = some _ := cell_of_row _ w5.heap.size 6 _ _ _ hr6
  clear hb5 hps hrw hlt hg
  have hlt6 : w5.heap.size < (w5.alloc (.cells #[.int .i64 2, .int .i64 3, (.slice (some ⟨g, 0, none⟩) 2 cg), .int .i64 2, .int .i64 0, .int .i64 10, .int .i64 (-10), .int .i64 0, .int .i64 0, .int .i64 0] 43 (0, 0))).heap.size := by simp
  go_upto_region 2 with fail
  generalize w5.alloc (.cells #[.int .i64 2, .int .i64 3, (.slice (some ⟨g, 0, none⟩) 2 cg), .int .i64 2, .int .i64 0, .int .i64 10, .int .i64 (-10), .int .i64 0, .int .i64 0, .int .i64 0] 43 (0, 0)) = w6 at *
  unfold PAt Rep.kA at hatA
  unfold PAt Rep.kB at hatB
  obtain ⟨a0, a1, a2, a3, a4, a5, a6, a7, a8, a9⟩ := hatA
  obtain ⟨b0, b1, b2, b3, b4, b5, b6, b7, b8, b9⟩ := hatB
  simp only [Nat.zero_mul, Nat.one_mul, Nat.zero_add, Nat.add_zero, Nat.reduceAdd, Nat.reduceMul] at a0 a1 a2 a3 a4 a5 a6 a7 a8 a9 b0 b1 b2 b3 b4 b5 b6 b7 b8 b9
  have hL := @Later.cell
  refine wp_region_later (by kernel_rfl) (by kernel_rfl) ?_
  repeat (go_big_quiet_step (first | (go_at_call 35; with_reducible exact later_call (HFA.out _)) | (go_at_call 35; with_reducible exact later_call (HFB.out _))))
  refine wpQuiet_nil ?_
  rintro w7 ⟨u, rfl⟩
  go_wp2
  go_ret
  exact ⟨rfl, HB6.out.trans (u.prop.mono HB6.out.size)⟩
end Go.Proofs.Ytajpggnmhkpbkaa
