/- Contract of the report chapter's rows (known). An argument that is a report, read as its days, rows and totals. Ways of: ReportTells returns true for every report and kind, and leaves the memory that was there as it was; under a listed table as the program's text lays it, and tied to it. -/
import Derived.Test.YtellhmbebimenaaDoorRt29
import Derived.Test.YtellhmbebimenaaDoorRt26
import Derived.Test.YtellhmbebimenaaDoorRt9
import Derived.Test.YtellhmbebimenaaDoorRt33
import Derived.Test.YtellhmbebimenaaDoorRt49
import Derived.Test.YtellhmbebimenaaDoorRt1

section
set_option linter.unusedVariables false
set_option linter.unusedSimpArgs false
namespace Go.Proofs.YtellhmbebimenaaDoor
open Go.RowKit

namespace Rep
def kA : Pst := ⟨2, 1230000000095, 1, 3, 0, 5, -5, 0, 0, 0⟩
def kB : Pst := ⟨3, 1230000000014, 2, 3, 0, 5, -5, 0, 0, 0⟩
def kC : Pst := ⟨1, 1230000000014, 1, 3, 0, 5, -5, 0, 0, 0⟩
theorem k_wf : WF [kA, kB, kC] := by
  intro z hz
  simp only [List.mem_cons, List.not_mem_nil, or_false] at hz
  rcases hz with rfl | rfl | rfl <;> exact ⟨by decide, by decide, by decide, by decide, by decide, by decide, by decide, by decide, by decide, by decide⟩
theorem k_wf2 : WF [kB, kA] := fun z hz => k_wf z (by simp only [List.mem_cons, List.not_mem_nil, or_false] at hz ⊢; rcases hz with rfl | rfl <;> simp)
theorem k_fine : FineP [kA, kB, kC] := by
  rw [fine_pairwise]
  refine ⟨?_, by simp [alike, kA, kB, kC]⟩
  intro z hz
  simp only [List.mem_cons, List.not_mem_nil, or_false] at hz
  rcases hz with rfl | rfl | rfl <;> decide
theorem k_filter : [kA, kB, kC].filter (within 2 3) = [kA, kB] := by simp [within, kA, kB, kC]
theorem k_mix : Srt.Mix keyP ([kA, kB, kC].filter (within 2 3)) [kB, kA] := by
  rw [k_filter]
  exact Srt.Mix.swap (x := [kA]) (y := [kB]) (by simp [keyP, kA, kB])
theorem k_up : Srt.Up keyP [kB, kA] := by
  unfold Srt.Up
  simp [keyP, kA, kB]
theorem k_sums : Post.sums [kB, kA] = ⟨0, 2, [0, 10, -10, 0, 0, 0]⟩ := by rfl
end Rep

set_option maxHeartbeats 1000000 in
theorem fly_any (d s q t : Int) (ht : Num.mkN 123 s = t) (w : World) : Calls Tryd.prog 81 #[.int .i64 d, .int .i64 s, .int .i64 q] w fun e w' => e = .returned (.agg #[.int .i64 d, .int .u64 t, .int .i64 q, .int .i64 3, .int .i64 0, .int .i64 5, .int .i64 (-5), .int .i64 0, .int .i64 0, .int .i64 0]) ∧ Below w.heap.size w w' := by
  have HT := Lib.hid ht
  go_enter Tryd.func81, Tryd.ntmps81
  go_wp2_with fail
  refine (rMake_any _ _ _).mono ?_
  rintro e w1 ⟨rfl, hb1⟩
  rw [HT.out]
  have hrow := (hb1.block w.heap.size (by simp)).trans (new_row w (.cells #[.int .i64 0, .int .u64 0, .int .i64 0, .int .i64 0, .int .i64 0, .int .i64 0, .int .i64 0, .int .i64 0, .int .i64 0, .int .i64 0] 49 (0, 0)) _ rfl)
  have HB1 := Lib.hid (((Below.refl w.heap.size w).alloc (Nat.le_refl _) _).trans (hb1.mono (by simp)))
  have hz := block_lt hrow
  have HR := Lib.hid hrow
  have hc := fun j => cell_of_row w1 w.heap.size j _ _ _ hrow
  have hf := fun j => frozen_of_row w1 w.heap.size j _ _ hrow
  clear hb1 hrow ht
  go_wp2
  have hrow := ten_row HR.out (.int .i64 d) (.int .u64 t) (.int .i64 q) (.int .i64 3) (.int .i64 0) (.int .i64 5) (.int .i64 (-5)) (.int .i64 0) (.int .i64 0) (.int .i64 0)
  refine bodyPost_ret (v := .agg #[.int .i64 d, .int .u64 t, .int .i64 q, .int .i64 3, .int .i64 0, .int .i64 5, .int .i64 (-5), .int .i64 0, .int .i64 0, .int .i64 0]) (by simp [results, Tryd.results81, go_sem, fun i => cell_of_row _ _ i _ _ _ hrow]) rfl ⟨rfl, ?_⟩
  exact ten_below HB1.out (Nat.le_refl _) _ _ _ _ _ _ _ _ _ _

theorem eqSelf (x : Pst) (w : World) : (binOp .eql 49 (.agg x.arr) (.agg x.arr)).run Tryd.prog w = .ok (.bool true) w := by
  have hS : Tryd.prog.underlying 49 = some (.struct (Tryd.prog.fieldsOf 49)) := by kernel_rfl
  have hp : Tryd.prog.stoodInHeld 49 = false := by kernel_rfl
  unfold Pst.arr
  rw [run_eql_struct, show (10000 : Nat) = 9999 + 1 from rfl, run_equalIn_agg w 9999 49 _ _ hS hp]
  simp only [Program.fieldsOf, Tryd.underlying49]
  go_simp

set_option maxRecDepth 4000 in
set_option maxHeartbeats 1000000 in
theorem known17_any (w : World) : Calls Tryd.prog 32 #[] w fun e w' => e = .returned (.bool true) ∧ Below w.heap.size w w' := by
  have HFA : Hid (∀ W, Calls Tryd.prog 81 #[.int .i64 2, .int .i64 9, .int .i64 1] W _) := Lib.hid (fun W => fly_any 2 9 1 1230000000095 (by decide) W)
  have HFB : Hid (∀ W, Calls Tryd.prog 81 #[.int .i64 3, .int .i64 1, .int .i64 2] W _) := Lib.hid (fun W => fly_any 3 1 2 1230000000014 (by decide) W)
  have HFC : Hid (∀ W, Calls Tryd.prog 81 #[.int .i64 1, .int .i64 1, .int .i64 1] W _) := Lib.hid (fun W => fly_any 1 1 1 1230000000014 (by decide) W)
  have HMK : Hid (∀ p W, PS W (.slice p 3 3) [Rep.kA, Rep.kB, Rep.kC] → _) := Lib.hid (fun p W h => make_fit 2 3 [Rep.kA, Rep.kB, Rep.kC] p 3 3 (by decide) rfl Rep.k_fine [Rep.kB, Rep.kA] Rep.k_mix Rep.k_up 0 2 0 10 (-10) 0 0 0 Rep.k_sums W h)
  have hEA : ∀ W, (binOp .eql 49 (.agg #[.int .i64 2, .int .u64 1230000000095, .int .i64 1, .int .i64 3, .int .i64 0, .int .i64 5, .int .i64 (-5), .int .i64 0, .int .i64 0, .int .i64 0]) (.agg #[.int .i64 2, .int .u64 1230000000095, .int .i64 1, .int .i64 3, .int .i64 0, .int .i64 5, .int .i64 (-5), .int .i64 0, .int .i64 0, .int .i64 0])).run Tryd.prog W = .ok (.bool true) W := fun W => eqSelf Rep.kA W
  have hEB : ∀ W, (binOp .eql 49 (.agg #[.int .i64 3, .int .u64 1230000000014, .int .i64 2, .int .i64 3, .int .i64 0, .int .i64 5, .int .i64 (-5), .int .i64 0, .int .i64 0, .int .i64 0]) (.agg #[.int .i64 3, .int .u64 1230000000014, .int .i64 2, .int .i64 3, .int .i64 0, .int .i64 5, .int .i64 (-5), .int .i64 0, .int .i64 0, .int .i64 0])).run Tryd.prog W = .ok (.bool true) W := fun W => eqSelf Rep.kB W
  have hG := guardPst'
  go_enter Tryd.func32, Tryd.ntmps32
  go_wp2_with fail
  refine (HFA.out _).mono ?_
  rintro e w1 ⟨rfl, hb1⟩
  go_wp2_with fail
  refine (HFB.out _).mono ?_
  rintro e w2 ⟨rfl, hb2⟩
  replace hb1 := below_call hb1 hb2
  go_wp2_with fail
  refine (HFC.out _).mono ?_
  rintro e w3 ⟨rfl, hb3⟩
  replace hb1 := below_call hb1 hb3
  have HB3 := Lib.hid hb1
  clear hb1 hb2 hb3
  go_wp2_with fail
  have hb4 := balloc HB3.out (.cells #[.int .i64 2, .int .u64 1230000000095, .int .i64 1, .int .i64 3, .int .i64 0, .int .i64 5, .int .i64 (-5), .int .i64 0, .int .i64 0, .int .i64 0, .int .i64 3, .int .u64 1230000000014, .int .i64 2, .int .i64 3, .int .i64 0, .int .i64 5, .int .i64 (-5), .int .i64 0, .int .i64 0, .int .i64 0, .int .i64 1, .int .u64 1230000000014, .int .i64 1, .int .i64 3, .int .i64 0, .int .i64 5, .int .i64 (-5), .int .i64 0, .int .i64 0, .int .i64 0] 49 (0, 0))
  have hrow := new_row w3 (.cells #[.int .i64 2, .int .u64 1230000000095, .int .i64 1, .int .i64 3, .int .i64 0, .int .i64 5, .int .i64 (-5), .int .i64 0, .int .i64 0, .int .i64 0, .int .i64 3, .int .u64 1230000000014, .int .i64 2, .int .i64 3, .int .i64 0, .int .i64 5, .int .i64 (-5), .int .i64 0, .int .i64 0, .int .i64 0, .int .i64 1, .int .u64 1230000000014, .int .i64 1, .int .i64 3, .int .i64 0, .int .i64 5, .int .i64 (-5), .int .i64 0, .int .i64 0, .int .i64 0] 49 (0, 0)) _ rfl
  have hps := ps_of_ls (RowL.slice (cap := 3) (RowL.of_block hrow Pst.cells_length (by decide) rfl) Pst.cells_length (by decide) (by decide) (by decide)) Rep.k_wf
  refine (HMK.out _ _ hps).mono ?_
  rintro e w5 ⟨v, hmine, hb5, he⟩
  obtain ⟨_, rfl⟩ := he.resolve_right (fun h => h.1 trivial)
  clear hb4 hps hrow
  have HB4 : Hid (Below w.heap.size w w5) := Lib.hid ((balloc HB3.out (.cells #[.int .i64 2, .int .u64 1230000000095, .int .i64 1, .int .i64 3, .int .i64 0, .int .i64 5, .int .i64 (-5), .int .i64 0, .int .i64 0, .int .i64 0, .int .i64 3, .int .u64 1230000000014, .int .i64 2, .int .i64 3, .int .i64 0, .int .i64 5, .int .i64 (-5), .int .i64 0, .int .i64 0, .int .i64 0, .int .i64 1, .int .u64 1230000000014, .int .i64 1, .int .i64 3, .int .i64 0, .int .i64 5, .int .i64 (-5), .int .i64 0, .int .i64 0, .int .i64 0] 49 (0, 0))).trans (hb5.mono (by have := HB3.out.size; simp <;> omega)))
  have hps := ps_of_ls (hmine.ls Pst.cells_length (by decide)) Rep.k_wf2
  rcases hmine with ⟨_, hnil⟩ | ⟨g, cg, rfl, hg, hlt, hc4, hx4, hrw⟩
  · cases hnil
  obtain ⟨bB, oB, eB, hblB, hatB⟩ := ps_at (hps.below ((Below.refl w5.heap.size w5).alloc (Nat.le_refl _) (.cells #[.int .i64 2, .int .i64 3, (.slice (some ⟨g, 0, none⟩) 2 cg), .int .i64 2, .int .i64 0, .int .i64 10, .int .i64 (-10), .int .i64 0, .int .i64 0, .int .i64 0] 61 (0, 0)))) (k := 0) rfl
  obtain ⟨bA, oA, eA, hblA, hatA⟩ := ps_at (hps.below ((Below.refl w5.heap.size w5).alloc (Nat.le_refl _) (.cells #[.int .i64 2, .int .i64 3, (.slice (some ⟨g, 0, none⟩) 2 cg), .int .i64 2, .int .i64 0, .int .i64 10, .int .i64 (-10), .int .i64 0, .int .i64 0, .int .i64 0] 61 (0, 0)))) (k := 1) rfl
  injection eB with eB; injection eB with eB1 eB2 _
  injection eA with eA; injection eA with eA1 eA2 _
  subst eB1 eB2 eA1 eA2
  have HB6 := Lib.hid (balloc HB4.out (.cells #[.int .i64 2, .int .i64 3, (.slice (some ⟨g, 0, none⟩) 2 cg), .int .i64 2, .int .i64 0, .int .i64 10, .int .i64 (-10), .int .i64 0, .int .i64 0, .int .i64 0] 61 (0, 0)))
  have hr6 := new_row w5 (.cells #[.int .i64 2, .int .i64 3, (.slice (some ⟨g, 0, none⟩) 2 cg), .int .i64 2, .int .i64 0, .int .i64 10, .int .i64 (-10), .int .i64 0, .int .i64 0, .int .i64 0] 61 (0, 0)) _ rfl
  have hr2 : (w5.alloc (.cells #[.int .i64 2, .int .i64 3, (.slice (some ⟨g, 0, none⟩) 2 cg), .int .i64 2, .int .i64 0, .int .i64 10, .int .i64 (-10), .int .i64 0, .int .i64 0, .int .i64 0] 61 (0, 0))).cell? ⟨w5.heap.size, 2, none⟩ = some _ := cell_of_row _ w5.heap.size 2 _ _ _ hr6
  have hr6 : (w5.alloc (.cells #[.int .i64 2, .int .i64 3, (.slice (some ⟨g, 0, none⟩) 2 cg), .int .i64 2, .int .i64 0, .int .i64 10, .int .i64 (-10), .int .i64 0, .int .i64 0, .int .i64 0] 61 (0, 0))).cell? ⟨w5.heap.size, 6, none⟩ = some _ := cell_of_row _ w5.heap.size 6 _ _ _ hr6
  clear hb5 hps hrw hlt hg
  have hlt6 : w5.heap.size < (w5.alloc (.cells #[.int .i64 2, .int .i64 3, (.slice (some ⟨g, 0, none⟩) 2 cg), .int .i64 2, .int .i64 0, .int .i64 10, .int .i64 (-10), .int .i64 0, .int .i64 0, .int .i64 0] 61 (0, 0))).heap.size := by simp
  go_upto_region 2 with fail
  generalize w5.alloc (.cells #[.int .i64 2, .int .i64 3, (.slice (some ⟨g, 0, none⟩) 2 cg), .int .i64 2, .int .i64 0, .int .i64 10, .int .i64 (-10), .int .i64 0, .int .i64 0, .int .i64 0] 61 (0, 0)) = w6 at *
  unfold PAt Rep.kA at hatA
  unfold PAt Rep.kB at hatB
  obtain ⟨a0, a1, a2, a3, a4, a5, a6, a7, a8, a9⟩ := hatA
  obtain ⟨b0, b1, b2, b3, b4, b5, b6, b7, b8, b9⟩ := hatB
  simp only [Nat.zero_mul, Nat.one_mul, Nat.zero_add, Nat.add_zero, Nat.reduceAdd, Nat.reduceMul] at a0 a1 a2 a3 a4 a5 a6 a7 a8 a9 b0 b1 b2 b3 b4 b5 b6 b7 b8 b9
  have hL := @Later.cell
  refine wp_region_later (by kernel_rfl) (by kernel_rfl) ?_
  repeat (go_big_quiet_step (first | (go_at_call 81; with_reducible exact later_call (HFA.out _)) | (go_at_call 81; with_reducible exact later_call (HFB.out _))))
  refine wpQuiet_nil ?_
  rintro w7 ⟨u, rfl⟩
  go_wp2
  go_ret
  exact ⟨rfl, HB6.out.trans (u.prop.mono HB6.out.size)⟩
end Go.Proofs.YtellhmbebimenaaDoor
end

section
set_option linter.unusedVariables false
set_option linter.unusedSimpArgs false
namespace Go.Proofs.YtellhmbebimenaaDoor
open Go.ChangeShapes Go.WideShapes Go.ChangeAt Go.RowKit Go.Deep

theorem repCells : Tryd.prog.cellsOf 61 = 10 := by kernel_rfl
theorem totCells : Tryd.prog.cellsOf 59 = 7 := by kernel_rfl
section
variable {H : Type} {enc : TypeId × Value → H} {W : World} {held : Bool}
set_option maxRecDepth 10000 in
theorem open_totals {n : Nat} {cs : List Value} {x : DataW H × List MemPlace} (h : DataW.trod enc Tryd.prog W 0 (fun _ => true) held n 59 cs = some x) :
    ∃ m x0 x1 x2 x3 x4 x5 : Int, cs = [.int .i64 m, .int .i64 x0, .int .i64 x1, .int .i64 x2, .int .i64 x3, .int .i64 x4, .int .i64 x5] := by
  obtain ⟨xs, m, _, hx, hl, hxl, hf⟩ := DataW.trod_struct Tryd.underlying59 h
  rw [totCells] at hl
  match cs, hl with
  | [c0, c1, c2, c3, c4, c5, c6], _ =>
    have g : ∀ i, i < 7 → ∃ y, xs[i]? = some y := fun i hi => ⟨_, List.getElem?_eq_getElem (by simp at hxl; omega)⟩
    obtain ⟨y0, e0⟩ := g 0 (by omega)
    obtain ⟨y1, e1⟩ := g 1 (by omega)
    obtain ⟨y2, e2⟩ := g 2 (by omega)
    obtain ⟨y3, e3⟩ := g 3 (by omega)
    obtain ⟨y4, e4⟩ := g 4 (by omega)
    obtain ⟨y5, e5⟩ := g 5 (by omega)
    obtain ⟨y6, e6⟩ := g 6 (by omega)
    obtain ⟨z0, f0, -, w0⟩ := DataW.trod_int (k := .i64) Tryd.underlying3 ((hf 0 _ rfl).trans e0)
    obtain ⟨z1, f1, -, w1⟩ := DataW.trod_int (k := .i64) Tryd.underlying2 ((hf 1 _ rfl).trans e1)
    obtain ⟨z2, f2, -, w2⟩ := DataW.trod_int (k := .i64) Tryd.underlying2 ((hf 2 _ rfl).trans e2)
    obtain ⟨z3, f3, -, w3⟩ := DataW.trod_int (k := .i64) Tryd.underlying2 ((hf 3 _ rfl).trans e3)
    obtain ⟨z4, f4, -, w4⟩ := DataW.trod_int (k := .i64) Tryd.underlying2 ((hf 4 _ rfl).trans e4)
    obtain ⟨z5, f5, -, w5⟩ := DataW.trod_int (k := .i64) Tryd.underlying2 ((hf 5 _ rfl).trans e5)
    obtain ⟨z6, f6, -, w6⟩ := DataW.trod_int (k := .i64) Tryd.underlying2 ((hf 6 _ rfl).trans e6)
    have c1i : Tryd.prog.cellsOf 3 = 1 := by kernel_rfl
    have c1l : Tryd.prog.cellsOf 2 = 1 := by kernel_rfl
    simp [c1i, c1l] at f0 f1 f2 f3 f4 f5 f6
    subst f0 f1 f2 f3 f4 f5 f6
    exact ⟨z0, z1, z2, z3, z4, z5, z6, rfl⟩

set_option maxRecDepth 10000 in
theorem open_posts_cell {fuel : Nat} {cs : List Value} {x : DataW H × List MemPlace} (hf : DataW.trod enc Tryd.prog W 0 (fun _ => true) held fuel 57 cs = some x) : ∃ (v : Value) (l : List Pst), cs = [v] ∧ PS W v l := by
  rcases open_slice Tryd.underlying57 hf with ⟨h0, _⟩ | ⟨a, len, cap, m, n, D, Pl, h0, hb, hl, hm, hmm, hx, hi⟩
  · exact ⟨_, [], h0, none, 0, rfl, Nat.le_refl _, Nat.zero_le _, fun x hx => absurd hx (by simp), fun h => absurd rfl h⟩
  · simp only [ite_true] at hmm
    subst hmm
    have key : ∀ i, i < len → ∃ p : Pst, p.wf ∧ ∀ j, j < 10 → W.cell? ((a.add (i * 10)).add j) = p.cells[j]? := by
      intro i hil
      obtain ⟨cs', h1, h2⟩ := hi i (by omega)
      obtain ⟨p, rfl, hw⟩ := open_post h2
      rw [postCells] at h1
      obtain ⟨_, _, hcell⟩ := World.cells?_some h1
      exact ⟨p, hw, hcell⟩
    have : Inhabited Pst := ⟨⟨0, 0, 0, 0, 0, 0, 0, 0, 0, 0⟩⟩
    obtain ⟨f, hf⟩ := choose_lt key
    refine ⟨_, (List.range len).map f, h0, some a, m, by simp, by simpa using hl, hm, ?_, ?_⟩
    · intro x hx
      obtain ⟨i, hi, rfl⟩ := List.mem_map.1 hx
      exact (hf i (List.mem_range.1 hi)).1
    · intro hne
      have hpos : 0 < len := by
        rcases Nat.eq_zero_or_pos len with h | h
        · subst h; simp at hne
        · exact h
      obtain ⟨b, o, he, hlt, _⟩ := wide_cells (n := 10) (cs := (f 0).cells) rfl (hf 0 hpos).2 (by omega)
      rw [Nat.zero_mul] at he
      have ha : a = ⟨b, o, none⟩ := by simpa [Addr.add] using he
      subst ha
      refine ⟨b, o, rfl, hlt, fun i x hx => ?_⟩
      rw [List.getElem?_map] at hx
      rcases Nat.lt_or_ge i len with hil | hil
      · rw [List.getElem?_range hil] at hx
        injection hx with hx
        subst hx
        have hg := (hf i hil).2
        rw [Go.WideShapes.add_plain] at hg
        have hg' : ∀ j, j < 10 → W.cell? ⟨b, o + i * 10 + j, none⟩ = (f i).cells[j]? := fun j hj => by have := hg j hj; rwa [Go.WideShapes.add_plain] at this
        exact ⟨hg' 0 (by omega), hg' 1 (by omega), hg' 2 (by omega), hg' 3 (by omega), hg' 4 (by omega), hg' 5 (by omega), hg' 6 (by omega), hg' 7 (by omega), hg' 8 (by omega), hg' 9 (by omega)⟩
      · rw [List.getElem?_eq_none (by simpa using hil)] at hx
        cases hx

set_option maxRecDepth 10000 in
theorem open_rep {n : Nat} {cs : List Value} {x : DataW H × List MemPlace} (h : DataW.trod enc Tryd.prog W 0 (fun _ => true) held n 61 cs = some x) :
    ∃ (a b : Int) (v : Value) (l : List Pst) (m x0 x1 x2 x3 x4 x5 : Int), cs = [.int .i64 a, .int .i64 b, v, .int .i64 m, .int .i64 x0, .int .i64 x1, .int .i64 x2, .int .i64 x3, .int .i64 x4, .int .i64 x5] ∧ PS W v l := by
  obtain ⟨xs, m, _, hx, hl, hxl, hf⟩ := DataW.trod_struct Tryd.underlying61 h
  rw [repCells] at hl
  match cs, hl with
  | [c0, c1, c2, c3, c4, c5, c6, c7, c8, c9], _ =>
    have g : ∀ i, i < 4 → ∃ y, xs[i]? = some y := fun i hi => ⟨_, List.getElem?_eq_getElem (by simp at hxl; omega)⟩
    obtain ⟨y0, e0⟩ := g 0 (by omega)
    obtain ⟨y1, e1⟩ := g 1 (by omega)
    obtain ⟨y2, e2⟩ := g 2 (by omega)
    obtain ⟨y3, e3⟩ := g 3 (by omega)
    obtain ⟨z0, f0, -, w0⟩ := DataW.trod_int (k := .i64) Tryd.underlying3 ((hf 0 _ rfl).trans e0)
    obtain ⟨z1, f1, -, w1⟩ := DataW.trod_int (k := .i64) Tryd.underlying3 ((hf 1 _ rfl).trans e1)
    obtain ⟨v, l, f2, hps⟩ := open_posts_cell ((hf 2 _ rfl).trans e2)
    obtain ⟨m, x0, x1, x2, x3, x4, x5, f3⟩ := open_totals ((hf 3 _ rfl).trans e3)
    have c1i : Tryd.prog.cellsOf 3 = 1 := by kernel_rfl
    have c1s : Tryd.prog.cellsOf 57 = 1 := by kernel_rfl
    simp [c1i, c1s, totCells] at f0 f1 f2 f3
    obtain ⟨rfl, rfl, rfl, rfl, rfl, rfl, rfl⟩ := f3
    subst f0 f1 f2
    exact ⟨z0, z1, _, l, _, _, _, _, _, _, _, rfl, hps⟩

set_option maxRecDepth 100000 in
theorem open_report {r : Reach} {b0 : Nat} {v : Value} {d : DataW H} {ps : List MemPlace} (hv : Value.okWide Tryd.prog W r b0 61 v)
    (h : DataW.Trod enc Tryd.prog W 0 (fun _ => true) held 61 v d ps) : ∃ (a b : Int) (p : Option Addr) (n cap : Nat) (l : List Pst) (m x0 x1 x2 x3 x4 x5 : Int), v = .agg #[.int .i64 a, .int .i64 b, .slice p n cap, .int .i64 m, .int .i64 x0, .int .i64 x1, .int .i64 x2, .int .i64 x3, .int .i64 x4, .int .i64 x5] ∧ PS W (.slice p n cap) l := by
  obtain ⟨cs, rfl, hsz⟩ := okWide_struct Tryd.underlying61 hv
  obtain ⟨fuel, hf⟩ := h
  obtain ⟨a, b, v, l, m, x0, x1, x2, x3, x4, x5, hc, hps⟩ := open_rep hf
  obtain ⟨p, cap, rfl, h2, h3⟩ := hps
  refine ⟨a, b, p, l.length, cap, l, m, x0, x1, x2, x3, x4, x5, ?_, p, cap, rfl, h2, h3⟩
  obtain ⟨z⟩ := cs
  have hl : z = _ := hc
  rw [hl]
end
end Go.Proofs.YtellhmbebimenaaDoor
end

section
set_option linter.unusedVariables false
set_option linter.unusedSimpArgs false
namespace Go.Proofs.YtellhmbebimenaaDoor.reportTells
open Go.ChangeShapes Go.WideShapes Go.ChangeAt Go.RowKit Go.Deep

set_option maxRecDepth 8000 in
theorem walkL (a b : Int) (l : List Pst) (p : Option Addr) (n cap : Nat) (m x0 x1 x2 x3 x4 x5 kd : Int) (w : World) (hs : PS w (.slice p n cap) l) (htab : Tab w) (hl : 60 < n) : Calls Tryd.prog 8 #[.agg #[.int .i64 a, .int .i64 b, (.slice p n cap), .int .i64 m, .int .i64 x0, .int .i64 x1, .int .i64 x2, .int .i64 x3, .int .i64 x4, .int .i64 x5], .int .i64 kd] w fun e w' => e = .returned (.bool true) ∧ Below w.heap.size w w' := by
  have HB := Lib.hid ((Below.refl w.heap.size w).alloc (Nat.le_refl _) (.cells #[.int .i64 a, .int .i64 b, (.slice p n cap), .int .i64 m, .int .i64 x0, .int .i64 x1, .int .i64 x2, .int .i64 x3, .int .i64 x4, .int .i64 x5] 61))
  have hc := fun j => cell_of_row _ w.heap.size j _ _ _ (new_rowW w (.cells #[.int .i64 a, .int .i64 b, (.slice p n cap), .int .i64 m, .int .i64 x0, .int .i64 x1, .int .i64 x2, .int .i64 x3, .int .i64 x4, .int .i64 x5] 61) _ rfl)
  have hn1 := (ps_len hs).2.1
  have hn2 := (ps_len hs).2.2
  clear hs
  go_enter Tryd.func8, Tryd.ntmps8
  go_wp2_with fail
  refine (known17_any _).mono ?_
  rintro e w1 ⟨rfl, hb1⟩
  go_wp2
  go_ret
  exact ⟨rfl, HB.out.trans (hb1.mono HB.out.size)⟩
set_option maxRecDepth 8000 in
set_option maxHeartbeats 4000000 in
theorem walkN (a b : Int) (l : List Pst) (p : Option Addr) (n cap : Nat) (m x0 x1 x2 x3 x4 x5 kd : Int) (w : World) (hs : PS w (.slice p n cap) l) (htab : Tab w) (hl : n ≤ 60) (hm : ¬ Rep.MayP a b l m [x0, x1, x2, x3, x4, x5]) : Calls Tryd.prog 8 #[.agg #[.int .i64 a, .int .i64 b, (.slice p n cap), .int .i64 m, .int .i64 x0, .int .i64 x1, .int .i64 x2, .int .i64 x3, .int .i64 x4, .int .i64 x5], .int .i64 kd] w fun e w' => e = .returned (.bool true) ∧ Below w.heap.size w w' := by
  have HLN := Lib.hid (fun W h => pLines_no a b l p n cap m x0 x1 x2 x3 x4 x5 hm W h)
  obtain ⟨y0, y1, y2, y3, y4, y5, hy⟩ := Post.six_of (Post.sums_fine (l.filter (Rep.ofK kd))).1
  obtain ⟨ev, hev⟩ : ∃ e, (Post.sums (l.filter (Rep.ofK kd))).e = e := ⟨_, rfl⟩
  obtain ⟨M, hM⟩ : ∃ e, (Post.sums (l.filter (Rep.ofK kd))).m = e := ⟨_, rfl⟩
  have hsum : Post.sums (l.filter (Rep.ofK kd)) = ⟨ev, M, [y0, y1, y2, y3, y4, y5]⟩ := by rw [← hev, ← hM, ← hy]
  have HBY : Hid (∀ W, PS W (.slice p n cap) l → Calls Tryd.prog 34 #[.agg #[.int .i64 a, .int .i64 b, (.slice p n cap), .int .i64 m, .int .i64 x0, .int .i64 x1, .int .i64 x2, .int .i64 x3, .int .i64 x4, .int .i64 x5], .int .i64 kd] W fun e w' => e = .returned (.agg #[.int .i64 0, .int .i64 0, .int .i64 0, .int .i64 0, .int .i64 0, .int .i64 0, .int .i64 0]) ∧ Below W.heap.size W w') := Lib.hid (fun W h => pBy_any a b l p n cap (by omega) m x0 x1 x2 x3 x4 x5 false (by simpa using hm) kd ev M y0 y1 y2 y3 y4 y5 hsum W h)
  have HRM := Lib.hid (fun W h => rMay17_any a b l p n cap (by omega) m x0 x1 x2 x3 x4 x5 false (by simpa using hm) W h)
  have hE : ∀ W : World, (binOp .eql 59 (.agg #[.int .i64 0, .int .i64 0, .int .i64 0, .int .i64 0, .int .i64 0, .int .i64 0, .int .i64 0]) (.agg #[.int .i64 0, .int .i64 0, .int .i64 0, .int .i64 0, .int .i64 0, .int .i64 0, .int .i64 0])).run Tryd.prog W = .ok (.bool true) W := fun W => eqTG 0 0 0 0 0 0 0 0 0 0 0 0 0 0 W
  have hG := guardTe
  have HPS := Lib.hid hs
  have hn1 := (ps_len hs).2.1
  have hn2 := (ps_len hs).2.2
  have HB := Lib.hid ((Below.refl w.heap.size w).alloc (Nat.le_refl _) (.cells #[.int .i64 a, .int .i64 b, (.slice p n cap), .int .i64 m, .int .i64 x0, .int .i64 x1, .int .i64 x2, .int .i64 x3, .int .i64 x4, .int .i64 x5] 61))
  have HR := Lib.hid (new_rowW w (.cells #[.int .i64 a, .int .i64 b, (.slice p n cap), .int .i64 m, .int .i64 x0, .int .i64 x1, .int .i64 x2, .int .i64 x3, .int .i64 x4, .int .i64 x5] 61) _ rfl)
  clear hs htab hm hsum hev hM hy
  go_enter Tryd.func8, Tryd.ntmps8
  go_upto_region 1 with fail
  generalize w.alloc (.cells #[.int .i64 a, .int .i64 b, (.slice p n cap), .int .i64 m, .int .i64 x0, .int .i64 x1, .int .i64 x2, .int .i64 x3, .int .i64 x4, .int .i64 x5] 61) = w0 at *
  have hc := fun j => cell_of_row w0 w.heap.size j _ _ _ HR.out
  go_wp2_with fail
  clear hc
  refine (HLN.out _ (HPS.out.below HB.out)).mono ?_
  rintro e w1 ⟨rfl, hb⟩
  replace HB := Lib.hid (HB.out.trans (hb.mono HB.out.size))
  replace HR := Lib.hid ((hb.block _ (block_lt HR.out)).trans HR.out)
  clear hb
  have hc := fun j => cell_of_row w1 w.heap.size j _ _ _ HR.out
  go_wp2_with fail
  clear hc
  refine (HBY.out _ (HPS.out.below HB.out)).mono ?_
  rintro e w2 ⟨rfl, hb⟩
  replace HB := Lib.hid (HB.out.trans (hb.mono HB.out.size))
  replace HR := Lib.hid ((hb.block _ (block_lt HR.out)).trans HR.out)
  clear hb
  have hc := fun j => cell_of_row w2 w.heap.size j _ _ _ HR.out
  go_upto_region 5 with fail
  clear hc
  have hb := (Below.refl w2.heap.size w2).alloc (Nat.le_refl _) (.cells #[.int .i64 0, .int .i64 0, .int .i64 0, .int .i64 0, .int .i64 0, .int .i64 0, .int .i64 0] 59)
  have HT := Lib.hid (new_rowW w2 (.cells #[.int .i64 0, .int .i64 0, .int .i64 0, .int .i64 0, .int .i64 0, .int .i64 0, .int .i64 0] 59) _ rfl)
  replace HB := Lib.hid (HB.out.trans (hb.mono HB.out.size))
  replace HR := Lib.hid ((hb.block _ (block_lt HR.out)).trans HR.out)
  clear hb
  generalize w2.alloc (.cells #[.int .i64 0, .int .i64 0, .int .i64 0, .int .i64 0, .int .i64 0, .int .i64 0, .int .i64 0] 59) = w3 at *
  generalize w2.heap.size = g6 at *
  have hc := fun j => cell_of_row w3 w.heap.size j _ _ _ HR.out
  go_wp2_with fail
  clear hc
  refine (HRM.out _ (HPS.out.below HB.out)).mono ?_
  rintro e w4 ⟨rfl, hb⟩
  replace HT := Lib.hid ((hb.block _ (block_lt HT.out)).trans HT.out)
  replace HB := Lib.hid (HB.out.trans (hb.mono HB.out.size))
  replace HR := Lib.hid ((hb.block _ (block_lt HR.out)).trans HR.out)
  clear hb
  have hct := fun j => cell_of_row w4 g6 j _ _ _ HT.out
  go_wp2_with fail
  refine (known17_any _).mono ?_
  rintro e w5 ⟨rfl, hb⟩
  go_wp2
  go_ret
  exact ⟨rfl, HB.out.trans (hb.mono HB.out.size)⟩
end Go.Proofs.YtellhmbebimenaaDoor.reportTells
end
