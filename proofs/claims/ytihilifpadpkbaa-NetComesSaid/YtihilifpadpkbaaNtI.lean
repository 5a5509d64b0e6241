/- Contract: the law's may. -/
import Derived.Test.YtihilifpadpkbaaNtG
set_option linter.unusedVariables false
set_option linter.unusedSimpArgs false
namespace Go.Proofs.Ytihilifpadpkbaa
open Go.RowKit

set_option maxRecDepth 4000 in
set_option maxHeartbeats 1000000 in
theorem lawmay_any (l : List Lt) (hfit : ∀ x ∈ l, x.fit) (bv : Bool) (hbv : bv = true ↔ ∀ x ∈ l, x.may = true) (p : Option Addr) (n cap : Nat) (w : World) (hs : LS Lt.cells 15 w (.slice p n cap) l) :
    Calls Try.prog 8 #[.slice p n cap] w fun e w' => e = .returned (.bool bv) ∧ Below w.heap.size w w' := by
  have HPS := Lib.hid hs; have HN := Lib.hid hs.length.1
  have hn1 := hs.length.2.1
  have hn2 := hs.length.2.2
  unfold maxLen at hn2
  have HBV := Lib.hid hbv; have HF := Lib.hid hfit
  clear hs hbv hfit
  go_enter Try.func8, Try.ntmps8
  go_wp2
  go_loopw [3] (fun i wr => ∃ k : Nat, k ≤ n ∧ i = .int .i64 k ∧ (∀ (j : Nat) (x : Lt), j < k → l[j]? = some x → x.may = true) ∧ Below w.heap.size w wr) (fun i _ => n - (intOf i).toNat)
  case atStart => exact ⟨0, Nat.zero_le _, rfl, fun j x h => absurd h (Nat.not_lt_zero _), Below.refl _ _⟩
  case round =>
    obtain ⟨k, hk, rfl, hall, hbw⟩ := hrel
    have HALL := Lib.hid hall; have HBW := Lib.hid hbw
    clear hall
    by_cases hlt : k < n
    · obtain ⟨x, hx⟩ : ∃ x, l[k]? = some x := ⟨_, List.getElem?_eq_getElem (by have := HN.out; omega)⟩
      obtain ⟨bb, o, rfl, hbl, hr⟩ := (HPS.out.below hbw).at hx
      have HX := Lib.hid hx
      have HW := Lib.hid (fun W => rLmayL_any x (HF.out x (List.mem_of_getElem? hx)) W)
      have c0 : wr.cell? ⟨bb, o + k * 15, none⟩ = some (.int .i64 x.f) := hr 0 _ rfl
      have c1 : wr.cell? ⟨bb, o + k * 15 + 1, none⟩ = some (.int .i64 x.t) := hr 1 _ rfl
      have c2 : wr.cell? ⟨bb, o + k * 15 + 2, none⟩ = some (.int .u64 x.n) := hr 2 _ rfl
      have c3 : wr.cell? ⟨bb, o + k * 15 + 3, none⟩ = some (.int .u64 x.a) := hr 3 _ rfl
      have c4 : wr.cell? ⟨bb, o + k * 15 + 4, none⟩ = some (.int .i64 x.k) := hr 4 _ rfl
      have c5 : wr.cell? ⟨bb, o + k * 15 + 5, none⟩ = some (.int .u64 x.tk) := hr 5 _ rfl
      have c6 : wr.cell? ⟨bb, o + k * 15 + 6, none⟩ = some (.int .i64 x.c) := hr 6 _ rfl
      have c7 : wr.cell? ⟨bb, o + k * 15 + 7, none⟩ = some (.int .i64 x.d) := hr 7 _ rfl
      have c8 : wr.cell? ⟨bb, o + k * 15 + 8, none⟩ = some (.int .i64 x.co) := hr 8 _ rfl
      have c9 : wr.cell? ⟨bb, o + k * 15 + 9, none⟩ = some (.int .i64 x.fl) := hr 9 _ rfl
      have c10 : wr.cell? ⟨bb, o + k * 15 + 10, none⟩ = some (.int .i64 x.dy) := hr 10 _ rfl
      have c11 : wr.cell? ⟨bb, o + k * 15 + 11, none⟩ = some (.int .i64 x.va) := hr 11 _ rfl
      have c12 : wr.cell? ⟨bb, o + k * 15 + 12, none⟩ = some (.int .i64 x.st) := hr 12 _ rfl
      have c13 : wr.cell? ⟨bb, o + k * 15 + 13, none⟩ = some (.int .i64 x.ho) := hr 13 _ rfl
      have c14 : wr.cell? ⟨bb, o + k * 15 + 14, none⟩ = some (.int .u64 x.nx) := hr 14 _ rfl
      clear hx hbw hr
      obtain ⟨y, hy⟩ : ∃ y, x.may = y := ⟨_, rfl⟩
      rw [hy] at HW
      have HY := Lib.hid hy
      clear hy
      go_wp2_with fail
      refine (HW.out _).mono ?_
      rintro e w1 ⟨rfl, hb1⟩
      have HBW1 := Lib.hid (HBW.out.trans (hb1.mono HBW.out.size))
      clear hb1 c0 c1 c2 c3 c4 c5 c6 c7 c8 c9 c10 c11 c12 c13 c14
      cases y
      · go_wp2
        go_ret
        refine ⟨ret_bool ?_, HBW1.out⟩
        cases hb : bv
        · rfl
        · have h1 := HBV.out.1 hb x (List.mem_of_getElem? HX.out)
          rw [HY.out] at h1
          cases h1
      · go_wp2
        go_roundw
        case rel =>
          refine ⟨k + 1, by omega, by go_num, fun j z hj hz => ?_, HBW1.out⟩
          rcases Nat.lt_or_ge j k with h | h
          · exact HALL.out j z h hz
          · obtain rfl : j = k := by omega
            have := HX.out.symm.trans hz
            injection this with this
            rw [← this]
            exact HY.out
        case measure => simp [intOf]; omega
    · obtain rfl : k = n := by omega
      clear hbw
      go_wp2
      go_ret
      refine ⟨ret_bool (HBV.out.2 fun x hx => ?_).symm, HBW.out⟩
      obtain ⟨j, hj⟩ := List.getElem?_of_mem hx
      exact HALL.out j x (by have := (List.getElem?_eq_some_iff.1 hj).1; have := HN.out; omega) hj

/-- a block of the call's own that holds records reads as a slice of them -/
theorem rows_new {α : Type} {enc : α → List Value} {n : Nat} {w : World} {g : Nat} {e : TypeId} {l : List α} {cs : Array Value} (hh : w.heap[g]? = some (.cells cs e (0, 0))) (hc : cs = (encL enc l).toArray) (hn : ∀ x, (enc x).length = n) (hp : 0 < n) (hl : l.length ≤ 1000) (m : Nat) (hm : m = l.length) : LS enc n w (.slice (some ⟨g, 0, none⟩) m m) l := by
  subst hc hm
  have h : RowL enc n w g l := RowL.of_block hh hn (by rw [List.size_toArray, encL_length hn]; exact Nat.le_refl _) (by rw [← encL_length hn l]; simp)
  exact h.slice hn hp (Nat.le_refl _) (by simp only [maxLen]; omega)
end Go.Proofs.Ytihilifpadpkbaa
