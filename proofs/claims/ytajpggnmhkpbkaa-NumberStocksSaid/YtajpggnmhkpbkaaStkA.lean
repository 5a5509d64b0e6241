/- A stock's numbers: the i-th one, and the iterator over all of them. -/
import Derived.Test.YtajpggnmhkpbkaaNumE
import Derived.RangeFuncNested
import Derived.RangeFuncBound
import Derived.RangeFuncCalls
import Derived.RangeFuncLeaves
import Derived.Shelf.Abstract
import Derived.Shelf.RegionOpen
import Derived.OwnWalkIn
import Derived.TacticsInMore
import Derived.LoopNIn
import Derived.LoopIn
set_option linter.unusedSimpArgs false
set_option linter.unusedVariables false
namespace Go.Proofs.Ytajpggnmhkpbkaa
open Go.RowKit Go.Shelf

namespace Num
def nthE (c f n i : Int) : Int := if mayStock c f n = true then (if 0 ≤ i ∧ i < n then 0 else 12) else 2
def nthN (c f n i : Int) : Int := if mayStock c f n = true ∧ 0 ≤ i ∧ i < n then mkN c (f + i) else 0
end Num

set_option maxHeartbeats 400000 in
theorem nth_any (c f n i : Int) (wn : -9223372036854775808 ≤ n ∧ n ≤ 9223372036854775807) (w : World) :
    Calls Try.prog 7 #[.agg #[.int .i64 c, .int .i64 f, .int .i64 n], .int .i64 i] w fun e w' => e = .returned (.tuple #[.int .u64 (Num.nthN c f n i), .int .i64 (Num.nthE c f n i)]) ∧ Below w.heap.size w w' := by
  have HM := Lib.hid (Num.mayStock_iff (c := c) (f := f) (n := n))
  have wn' := wn
  obtain ⟨wn1, wn2⟩ := wn'
  cases hm : Num.mayStock c f n
  · have e1 : Num.nthN c f n i = 0 := by unfold Num.nthN; rw [hm]; simp
    have e2 : Num.nthE c f n i = 2 := by unfold Num.nthE; rw [hm]; simp
    rw [e1, e2]; clear e1 e2
    go_enter Try.func7, Try.ntmps7
    go_wp2_with fail
    refine (mayStock_any _ _ _ wn _).mono ?_
    rintro e w1 ⟨rfl, hb1⟩
    rw [hm]
    go_wp2
    go_ret2
    exact ⟨rfl, ((Below.refl w.heap.size w).alloc (Nat.le_refl _) _).trans (hb1.mono (by simp))⟩
  · obtain ⟨b0, ⟨b1, b2⟩, b3, b4⟩ := HM.out.1 hm
    have HM2 := Lib.hid hm
    by_cases h : 0 ≤ i ∧ i < n
    · have e1 : Num.nthN c f n i = Num.mkN c (f + i) := by unfold Num.nthN; rw [if_pos ⟨hm, h⟩]
      have e2 : Num.nthE c f n i = 0 := by unfold Num.nthE; rw [if_pos hm, if_pos h]
      have e3 : Num.mkE c (f + i) = 0 := by unfold Num.mkE; rw [if_pos]; rw [Bool.and_eq_true, Num.mayC_iff, Num.mayS_iff]; omega
      rw [e1, e2]; clear e1 e2
      obtain ⟨h0, h1⟩ := h
      have E3 := Lib.hid e3; clear e3
      go_enter Try.func7, Try.ntmps7
      go_wp2_with fail
      refine (mayStock_any _ _ _ wn _).mono ?_
      rintro e w1 ⟨rfl, hb1⟩
      rw [HM2.out]
      obtain ⟨hcell, _⟩ := bcell hb1
      go_wp2_with fail
      refine (make_any _ _ _).mono ?_
      rintro e w2 ⟨rfl, rfl⟩
      rw [E3.out]
      go_wp2
      go_ret2
      exact ⟨rfl, ((Below.refl w.heap.size w).alloc (Nat.le_refl _) _).trans (hb1.mono (by simp))⟩
    · have e1 : Num.nthN c f n i = 0 := by unfold Num.nthN; rw [if_neg (fun h' => h h'.2)]
      have e2 : Num.nthE c f n i = 12 := by unfold Num.nthE; rw [if_pos hm, if_neg h]
      rw [e1, e2]; clear e1 e2
      rcases (by omega : i < 0 ∨ (0 ≤ i ∧ n ≤ i)) with h' | ⟨h', h''⟩
      all_goals
        clear h
        go_enter Try.func7, Try.ntmps7
        go_wp2_with fail
        refine (mayStock_any _ _ _ wn _).mono ?_
        rintro e w1 ⟨rfl, hb1⟩
        rw [HM2.out]
        obtain ⟨hcell, _⟩ := bcell hb1
        go_wp2
        go_ret2
        exact ⟨rfl, ((Below.refl w.heap.size w).alloc (Nat.le_refl _) _).trans (hb1.mono (by simp))⟩

theorem all_any (c f n : Int) (w : World) :
    Calls Try.prog 11 #[.agg #[.int .i64 c, .int .i64 f, .int .i64 n]] w fun e w' => e = .returned (.func (.func 29) #[] #[.pointer (some ⟨w.heap.size, 0, none⟩)]) ∧ w' = w.alloc (.cells #[.int .i64 c, .int .i64 f, .int .i64 n] 23) := by
  go_enter Try.func11, Try.ntmps11
  go_wp2
  go_ret
  exact ⟨rfl, rfl⟩

/-- what has come when k rounds are over -/
def Num.upto (c f : Int) (k : Nat) : List (Nat × Int) := (List.range k).map fun j => (j, Num.mkN c (f + j))
theorem Num.upto_succ (c f : Int) (k : Nat) : Num.upto c f (k + 1) = Num.upto c f k ++ [(k, Num.mkN c (f + k))] := by simp [Num.upto, List.range_succ]
theorem Num.upto_length (c f : Int) (k : Nat) : (Num.upto c f k).length = k := by simp [Num.upto]
theorem grown_of_below {w w' : World} (h : Below w.heap.size w w') : w.grownBy w' none := ⟨h.os, h.tape, h.output, h.size, fun k hk _ => h.block k hk⟩
attribute [local go_sem] Oper.semAt_some

set_option maxRecDepth 100000 in
set_option maxHeartbeats 2000000 in
theorem all1_in (m : Nat) (hm : 1 ≤ m) (l Bs n₀ : Nat) (c f n : Int) (wn : -9223372036854775808 ≤ n ∧ n ≤ 9223372036854775807) (N : Nat) (hN : N = if Num.mayStock c f n = true then n.toNat else 0) (hBs0 : Bs < n₀) (J Jx : List (Nat × Int) → World → Prop)
    (hY : ∀ pre x W, J pre W → pre.length < N → YieldAt Fence.wide (m - 1) Try.prog l #[.int .i64 (x.1 : Int), .int .u64 x.2] W fun e W' =>
      (e = .returned (.bool true) ∧ J (pre ++ [x]) W' ∧ Below n₀ W W') ∨ (e = .returned (.bool false) ∧ Jx (pre ++ [x]) W'))
    (W : World) (hn₀ : n₀ ≤ W.heap.size) (hJ : AbidesFrom W.heap.size J) (hB0 : W.cell? ⟨Bs, 0, none⟩ = some (.int .i64 c)) (hB1 : W.cell? ⟨Bs, 1, none⟩ = some (.int .i64 f)) (hB2 : W.cell? ⟨Bs, 2, none⟩ = some (.int .i64 n)) (h0 : J [] W) :
    CallsIn Fence.wide m Try.prog 29 #[.func (.yield l) #[] #[], .pointer (some ⟨Bs, 0, none⟩)] W fun e W' => (∃ v, e = .returned v) ∧
      ((∃ ys, ys = Num.upto c f N ∧ J ys W') ∨ (∃ pre, (∃ k, 1 ≤ k ∧ k ≤ N ∧ pre = Num.upto c f k) ∧ Jx pre W')) := by
  have HN := Lib.hid hN
  refine callsIn_of_wp Try.func29 rfl trivial ?_ rfl
  simp only [Try.ntmps29, List.size_toArray, List.length_cons, List.length_nil, Nat.reduceAdd, Nat.reduceSub, Array.replicate_succ, Array.replicate_zero, List.push_toArray, List.append_toArray, List.nil_append, List.cons_append]
  gi_wp2
  gi_loopw [3] (fun i wr => ∃ k : Nat, k ≤ N ∧ i = .int .i64 k ∧ J (Num.upto c f k) wr ∧ Below n₀ W wr)
    (fun i _ => N - (intOf i).toNat)
  case atStart => exact ⟨0, Nat.zero_le _, rfl, h0, Below.refl _ _⟩
  case round =>
    obtain ⟨k, hk, rfl, hJs, hnx⟩ := hrel
    have c0 := (hnx.cell (p := ⟨Bs, 0, none⟩) hBs0).trans hB0
    have c1 := (hnx.cell (p := ⟨Bs, 1, none⟩) hBs0).trans hB1
    have c2 := (hnx.cell (p := ⟨Bs, 2, none⟩) hBs0).trans hB2
    have hwr : n₀ ≤ wr.heap.size := Nat.le_trans hn₀ hnx.size
    by_cases hlt : k < N
    · have hmay : Num.mayStock c f n = true := by
        cases hm : Num.mayStock c f n
        · have := HN.out; rw [hm] at this; simp at this; omega
        · rfl
      have hkn : (k : Int) < n := by have := HN.out; rw [if_pos hmay] at this; omega
      have e1 : Num.nthN c f n k = Num.mkN c (f + k) := by unfold Num.nthN; rw [if_pos ⟨hmay, by omega, hkn⟩]
      have e2 : Num.nthE c f n k = 0 := by unfold Num.nthE; rw [if_pos hmay, if_pos ⟨by omega, hkn⟩]
      have HC : Hid (∀ W, Calls Try.prog 7 #[.agg #[.int .i64 c, .int .i64 f, .int .i64 n], .int .i64 k] W fun e w' => e = .returned (.tuple #[.int .u64 (Num.mkN c (f + k)), .int .i64 0]) ∧ Below W.heap.size W w') :=
        Lib.hid (fun W => by have := nth_any c f n k wn W; rwa [e1, e2] at this)
      have hk9 : (k : Int) < 9223372036854775807 := by have := wn.2; omega
      clear e1 e2 hmay hkn hN
      gi_wp2_with fail
      refine ⟨trivial, (callsIn_wide.2 (HC.out _)).mono ?_⟩
      rintro e w1 ⟨rfl, hb1⟩
      have hJ1 : J (Num.upto c f k) w1 := hJ _ _ _ none hJs (grown_of_below hb1) (fun r e => by cases e)
      have hnx1 := hnx.trans (hb1.mono hwr)
      obtain ⟨fn, tmps, assign, body, hy, hR⟩ := hY _ (k, Num.mkN c (f + k)) w1 hJ1 (by rw [Num.upto_length]; exact hlt)
      dsimp only at hy
      gi_wp2
      refine hR.mono ?_
      rintro e W3 (⟨rfl, hJ3, hk3⟩ | ⟨rfl, hJx3⟩)
      · gi_wp2
        go_roundw
        case rel => exact ⟨k + 1, by omega, by go_num, by rw [Num.upto_succ]; exact hJ3, hnx1.trans hk3⟩
        case measure => simp [intOf]; omega
      · gi_wp2
        refine bodyPost_ret (results_none rfl _ _ _) rfl ?_
        exact ⟨⟨_, rfl⟩, .inr ⟨_, ⟨k + 1, by omega, by omega, (Num.upto_succ _ _ _).symm⟩, hJx3⟩⟩
    · obtain rfl : k = N := by omega
      have hE : Num.nthE c f n k ≠ 0 := by
        have := HN.out
        unfold Num.nthE
        cases hm : Num.mayStock c f n
        · simp
        · rw [hm] at this
          simp only [if_true] at this
          rw [if_pos rfl, if_neg (by omega)]
          decide
      have HC : Hid (∀ W, Calls Try.prog 7 #[.agg #[.int .i64 c, .int .i64 f, .int .i64 n], .int .i64 k] W fun e w' => e = .returned (.tuple #[.int .u64 (Num.nthN c f n k), .int .i64 (Num.nthE c f n k)]) ∧ Below W.heap.size W w') :=
        Lib.hid (fun W => nth_any c f n k wn W)
      generalize Num.nthN c f n k = x at *
      generalize Num.nthE c f n k = y at *
      have hq : (y != 0) = true := bne_iff_ne.2 hE
      clear hE hN
      gi_wp2_with fail
      refine ⟨trivial, (callsIn_wide.2 (HC.out _)).mono ?_⟩
      rintro e w1 ⟨rfl, hb1⟩
      have hJ1 : J (Num.upto c f k) w1 := hJ _ _ _ none hJs (grown_of_below hb1) (fun r e => by cases e)
      gi_wp2
      all_goals
        refine ⟨fun _ h => (by cases h), ?_⟩
        gi_wp2
        refine bodyPost_ret (results_none rfl _ _ _) rfl ?_
        exact ⟨⟨_, rfl⟩, .inl ⟨_, rfl, hJ1⟩⟩

/-- the value that All tells goes over the stock's numbers, in order; or over the first ones, where a round says so -/
theorem all_stops (m : Nat) (hm : 1 ≤ m) (Bs n₀ : Nat) (c f n : Int) (wn : -9223372036854775808 ≤ n ∧ n ≤ 9223372036854775807) (N : Nat) (hN : N = if Num.mayStock c f n = true then n.toNat else 0) (hBs0 : Bs < n₀) (w : World) (hn₀ : n₀ ≤ w.heap.size)
    (hB0 : w.cell? ⟨Bs, 0, none⟩ = some (.int .i64 c)) (hB1 : w.cell? ⟨Bs, 1, none⟩ = some (.int .i64 f)) (hB2 : w.cell? ⟨Bs, 2, none⟩ = some (.int .i64 n)) :
    SeqStopsK Fence.wide m Try.prog 29 #[.pointer (some ⟨Bs, 0, none⟩)] (fun x : Nat × Int => #[Value.int .i64 (x.1 : Int), Value.int .u64 x.2]) (Below n₀) (fun ys => ys = Num.upto c f N) (fun pre => ∃ k, 1 ≤ k ∧ k ≤ N ∧ pre = Num.upto c f k) N w := fun l J Jx W hW hJ _ hY h0 => by
  have hlt : Bs < w.heap.size := Nat.lt_of_lt_of_le hBs0 hn₀
  exact all1_in m hm l Bs n₀ c f n wn N hN hBs0 J Jx hY W (Nat.le_trans hn₀ hW.size) hJ ((hW.cell (p := ⟨Bs, 0, none⟩) hlt).trans hB0) ((hW.cell (p := ⟨Bs, 1, none⟩) hlt).trans hB1) ((hW.cell (p := ⟨Bs, 2, none⟩) hlt).trans hB2) h0
end Go.Proofs.Ytajpggnmhkpbkaa
