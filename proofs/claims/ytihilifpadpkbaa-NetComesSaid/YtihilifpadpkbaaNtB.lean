/- Contracts: which letters of a list may not be; Send. -/
import Derived.Test.YtihilifpadpkbaaNtA
import Derived.Deep.RegionLaw
import Derived.StillTailTactics
set_option linter.unusedVariables false
set_option linter.unusedSimpArgs false
namespace Go.Proofs.Ytihilifpadpkbaa
open Go.RowKit

theorem send1_any (x : Lt) (h : x.fit) (w : World) : Calls Try.prog 29 #[.agg #[.int .i64 x.f, .int .i64 x.t, .int .u64 x.n, .int .u64 x.a, .int .i64 x.k, .int .u64 x.tk, .int .i64 x.c, .int .i64 x.d, .int .i64 x.co, .int .i64 x.fl, .int .i64 x.dy, .int .i64 x.va, .int .i64 x.st, .int .i64 x.ho, .int .u64 x.nx]] w fun e w' => e = .returned (.bool (!x.may)) ∧ Below w.heap.size w w' := by
  have HM := Lib.hid (fun W => lmayL_any x h W)
  have HB := Lib.hid ((Below.refl w.heap.size w).alloc (Nat.le_refl _) (.cells #[.int .i64 x.f, .int .i64 x.t, .int .u64 x.n, .int .u64 x.a, .int .i64 x.k, .int .u64 x.tk, .int .i64 x.c, .int .i64 x.d, .int .i64 x.co, .int .i64 x.fl, .int .i64 x.dy, .int .i64 x.va, .int .i64 x.st, .int .i64 x.ho, .int .u64 x.nx] 35 (0, 0)))
  clear h
  generalize x.may = q at *
  go_enter Try.func29, Try.ntmps29
  go_wp2_with fail
  refine (HM.out _).mono ?_
  rintro e w1 ⟨rfl, hb1⟩
  have HB1 := Lib.hid (HB.out.trans (hb1.mono HB.out.size))
  clear hb1
  go_wp2
  go_ret
  exact ⟨rfl, HB1.out⟩

set_option maxRecDepth 4000 in
set_option maxHeartbeats 1000000 in
theorem hasLI_any (l : List Lt) (q : Lt → Bool) (bv : Bool) (hbv : bv = true ↔ ∃ x ∈ l, q x = true) (p : Option Addr) (n cap : Nat) (w : World) (hs : LS Lt.cells 15 w (.slice p n cap) l)
    (hc : ∀ x ∈ l, ∀ W, Below w.heap.size w W → Calls Try.prog 29 #[.agg #[.int .i64 x.f, .int .i64 x.t, .int .u64 x.n, .int .u64 x.a, .int .i64 x.k, .int .u64 x.tk, .int .i64 x.c, .int .i64 x.d, .int .i64 x.co, .int .i64 x.fl, .int .i64 x.dy, .int .i64 x.va, .int .i64 x.st, .int .i64 x.ho, .int .u64 x.nx]] W fun e w' => e = .returned (.bool (q x)) ∧ Below W.heap.size W w') :
    Calls Try.prog 38 #[.slice p n cap, .func (.func 29) #[] #[]] w fun e w' => (∃ j : Int, e = .returned (.int .i64 j) ∧ decide (0 ≤ j) = bv) ∧ Below w.heap.size w w' := by
  have HPS := Lib.hid hs; have HN := Lib.hid hs.length.1
  have hn1 := hs.length.2.1
  have hn2 := hs.length.2.2
  unfold maxLen at hn2
  have HBV := Lib.hid hbv; have HC := Lib.hid hc
  clear hs hbv hc
  go_enter Try.func38, Try.ntmps38
  go_wp2
  go_loopw [8] (fun i wr => ∃ k : Nat, k ≤ n ∧ i = .int .i64 k ∧ (∀ (j : Nat) (x : Lt), j < k → l[j]? = some x → q x = false) ∧ Below w.heap.size w wr) (fun i _ => n - (intOf i).toNat)
  case atStart => exact ⟨0, Nat.zero_le _, rfl, fun j x h => absurd h (Nat.not_lt_zero _), Below.refl _ _⟩
  case round =>
    obtain ⟨k, hk, rfl, hall, hbw⟩ := hrel
    have HALL := Lib.hid hall; have HBW := Lib.hid hbw
    clear hall
    by_cases hlt : k < n
    · obtain ⟨x, hx⟩ : ∃ x, l[k]? = some x := ⟨_, List.getElem?_eq_getElem (by have := HN.out; omega)⟩
      obtain ⟨bb, o, rfl, hbl, hr⟩ := (HPS.out.below hbw).at hx
      have HX := Lib.hid hx
      have HW := Lib.hid (HC.out x (List.mem_of_getElem? hx))
      have c0 : wr.cell? ⟨bb, o + k * 15, none⟩ = some (.int .i64 x.f) := hr 0 _ rfl
      have c1 : wr.cell? ⟨bb, o + k * 15 + 1, none⟩ = some (.int .i64 x.t) := hr 1 _ rfl
      have c2 : wr.cell? ⟨bb, o + k * 15 + 2, none⟩ = some (.int .u64 x.n) := hr 2 _ rfl
      have c3 : wr.cell? ⟨bb, o + k * 15 + 3, none⟩ = some (.int .u64 x.a) := hr 3 _ rfl
      have c4 : wr.cell? ⟨bb, o + k * 15 + 4, none⟩ = some (.int .i64 x.k) := hr 4 _ rfl
      have c5 : wr.cell? ⟨bb, o + k * 15 + 5, none⟩ = some (.int .u64 x.tk) := hr 5 _ rfl
      have c6 : wr.cell? ⟨bb, o + k * 15 + 6, none⟩ = some (.int .i64 x.c) := hr 6 _ rfl
      have c7 : wr.cell? ⟨bb, o + k * 15 + 7, none⟩ = some (.int .i64 x.d) := hr 7 _ rfl
      have c8 : wr.cell? ⟨bb, o + k * 15 + 8, none⟩ = some (.int .i64 x.co) := hr 8 _ rfl
      have c9 : wr.cell? ⟨bb, o + k * 15 + 9, none⟩ = some (.int .i64 x.fl) := hr 9 _ rfl
      have c10 : wr.cell? ⟨bb, o + k * 15 + 10, none⟩ = some (.int .i64 x.dy) := hr 10 _ rfl
      have c11 : wr.cell? ⟨bb, o + k * 15 + 11, none⟩ = some (.int .i64 x.va) := hr 11 _ rfl
      have c12 : wr.cell? ⟨bb, o + k * 15 + 12, none⟩ = some (.int .i64 x.st) := hr 12 _ rfl
      have c13 : wr.cell? ⟨bb, o + k * 15 + 13, none⟩ = some (.int .i64 x.ho) := hr 13 _ rfl
      have c14 : wr.cell? ⟨bb, o + k * 15 + 14, none⟩ = some (.int .u64 x.nx) := hr 14 _ rfl
      clear hx hbw hr
      obtain ⟨y, hy⟩ : ∃ y, q x = y := ⟨_, rfl⟩
      rw [hy] at HW
      have HY := Lib.hid hy
      clear hy
      go_wp2_with fail
      refine (HW.out _ HBW.out).mono ?_
      rintro e w1 ⟨rfl, hb1⟩
      have HBW1 := Lib.hid (HBW.out.trans (hb1.mono HBW.out.size))
      clear hb1
      clear c0 c1 c2 c3 c4 c5 c6 c7 c8 c9 c10 c11 c12 c13 c14
      cases y
      · go_wp2
        go_roundw
        case rel =>
          refine ⟨k + 1, by omega, by go_num, fun j z hj hz => ?_, HBW1.out⟩
          rcases Nat.lt_or_ge j k with h | h
          · exact HALL.out j z h hz
          · obtain rfl : j = k := by omega
            have := HX.out.symm.trans hz
            injection this with this
            rw [← this]
            exact HY.out
        case measure => simp [intOf]; omega
      · go_wp2
        go_ret
        refine ⟨⟨k, rfl, ?_⟩, HBW1.out⟩
        have := HBV.out.2 ⟨x, List.mem_of_getElem? HX.out, HY.out⟩
        rw [this]; simp
    · obtain rfl : k = n := by omega
      clear hbw
      go_wp2
      go_ret
      refine ⟨⟨-1, rfl, ?_⟩, HBW.out⟩
      cases bv
      · rfl
      · obtain ⟨x, hx, h1⟩ := HBV.out.1 rfl
        obtain ⟨j, hj⟩ := List.getElem?_of_mem hx
        have := HALL.out j x (by have := (List.getElem?_eq_some_iff.1 hj).1; have := HN.out; omega) hj
        rw [h1] at this
        cases this
theorem hasL_any (l : List Lt) (q : Lt → Bool) (bv : Bool) (hbv : bv = true ↔ ∃ x ∈ l, q x = true) (p : Option Addr) (n cap : Nat) (w : World) (hs : LS Lt.cells 15 w (.slice p n cap) l)
    (hc : ∀ x ∈ l, ∀ W, Below w.heap.size w W → Calls Try.prog 29 #[.agg #[.int .i64 x.f, .int .i64 x.t, .int .u64 x.n, .int .u64 x.a, .int .i64 x.k, .int .u64 x.tk, .int .i64 x.c, .int .i64 x.d, .int .i64 x.co, .int .i64 x.fl, .int .i64 x.dy, .int .i64 x.va, .int .i64 x.st, .int .i64 x.ho, .int .u64 x.nx]] W fun e w' => e = .returned (.bool (q x)) ∧ Below W.heap.size W w') :
    Calls Try.prog 28 #[.slice p n cap, .func (.func 29) #[] #[]] w fun e w' => e = .returned (.bool bv) ∧ Below w.heap.size w w' := by
  have H := Lib.hid (hasLI_any l q bv hbv p n cap w hs hc)
  clear hs hc hbv
  go_enter Try.func28, Try.ntmps28
  go_wp2_with fail
  refine H.out.mono ?_
  rintro e w1 ⟨⟨j, rfl, hj⟩, hb1⟩
  go_wp2
  go_ret
  exact ⟨rfl, hb1⟩
end Go.Proofs.Ytihilifpadpkbaa
