/- Contracts: may all coupons be (ticket.May's closure, over the list). -/
import Derived.Test.YtmadkfahkbdibaaTkC
import Derived.Test.YtmadkfahkbdibaaTkD
import Derived.Test.YtmadkfahkbdibaaRecB
set_option linter.unusedVariables false
set_option linter.unusedSimpArgs false
namespace Go.Proofs.Ytmadkfahkbdibaa
open Go.RowKit

theorem elemCp : Elem Try.prog Cpn.cells 6 48 23 44 := Elem.of Try.underlying23 (by kernel_rfl) (by decide) (by decide) Cpn.cells_length Cpn.cells_one
set_option maxRecDepth 4000 in
set_option maxHeartbeats 1000000 in
theorem may1_any (t : Tk) (c x h : Sl) (y : Cpn) (hw : y.wf) (hnum : U64 t.num) (g : Nat) (w : World) (hx : w.heap[g]? = some (.cells #[.int .u64 t.num, .string t.loc, .int .i64 t.iss, .slice c.p c.n c.c, .slice x.p x.n x.c, .int .u64 t.prev, .int .u64 t.org, .int .u64 t.fst, .int .i64 t.vou, .int .i64 t.posts, .slice h.p h.n h.c] 27 (0, 0))) : Calls Try.prog 58 #[.agg #[.int .i64 y.fl, .int .i64 y.dy, .int .i64 y.va, .int .i64 y.st, .int .i64 y.ho, .int .u64 y.nx], .pointer (some ⟨g, 0, none⟩)] w fun e w' => e = .returned (.bool (!Tkt.cpnB t.num y)) ∧ Below w.heap.size w w' := by
  have HM := Lib.hid (fun W => mayCoupon_any t c x h y hw hnum W)
  have HB := Lib.hid ((Below.refl w.heap.size w).alloc (Nat.le_refl _) (.cells #[.int .i64 y.fl, .int .i64 y.dy, .int .i64 y.va, .int .i64 y.st, .int .i64 y.ho, .int .u64 y.nx] 44 (0, 0)))
  have hrow := ((Below.refl w.heap.size w).alloc (Nat.le_refl _) (.cells #[.int .i64 y.fl, .int .i64 y.dy, .int .i64 y.va, .int .i64 y.st, .int .i64 y.ho, .int .u64 y.nx] 44 (0, 0))).block g (block_lt hx) |>.trans hx
  have hct := fun j => cell_of_row _ g j _ _ _ hrow
  have hcc := fun j => cell_of_row _ w.heap.size j _ _ _ (new_rowW w (.cells #[.int .i64 y.fl, .int .i64 y.dy, .int .i64 y.va, .int .i64 y.st, .int .i64 y.ho, .int .u64 y.nx] 44 (0, 0)) _ rfl)
  clear hx hrow
  generalize Tkt.cpnB t.num y = q at *
  go_enter Try.func58, Try.ntmps58
  go_wp2_with fail
  refine (HM.out _).mono ?_
  rintro e w1 ⟨rfl, hb1⟩
  have HB1 := Lib.hid (HB.out.trans (hb1.mono HB.out.size))
  clear hb1
  go_wp2
  go_ret
  exact ⟨rfl, HB1.out⟩

set_option maxRecDepth 4000 in
set_option maxHeartbeats 1000000 in
theorem hasCpI_any (l : List Cpn) (q : Cpn → Bool) (bv : Bool) (hbv : bv = true ↔ ∃ x ∈ l, q x = true) (p : Option Addr) (n cap : Nat) (g : Nat) (w : World) (hs : LS Cpn.cells 6 w (.slice p n cap) l)
    (hc : ∀ x ∈ l, ∀ W, Below w.heap.size w W → Calls Try.prog 58 #[.agg #[.int .i64 x.fl, .int .i64 x.dy, .int .i64 x.va, .int .i64 x.st, .int .i64 x.ho, .int .u64 x.nx], .pointer (some ⟨g, 0, none⟩)] W fun e w' => e = .returned (.bool (q x)) ∧ Below W.heap.size W w') :
    Calls Try.prog 121 #[.slice p n cap, .func (.func 58) #[] #[.pointer (some ⟨g, 0, none⟩)]] w fun e w' => (∃ j : Int, e = .returned (.int .i64 j) ∧ decide (0 ≤ j) = bv) ∧ Below w.heap.size w w' := by
  have HPS := Lib.hid hs; have HN := Lib.hid hs.length.1
  have hn1 := hs.length.2.1
  have hn2 := hs.length.2.2
  unfold maxLen at hn2
  have HBV := Lib.hid hbv; have HC := Lib.hid hc
  clear hs hbv hc
  go_enter Try.func121, Try.ntmps121
  go_wp2
  go_loopw [8] (fun i wr => ∃ k : Nat, k ≤ n ∧ i = .int .i64 k ∧ (∀ (j : Nat) (x : Cpn), j < k → l[j]? = some x → q x = false) ∧ Below w.heap.size w wr) (fun i _ => n - (intOf i).toNat)
  case atStart => exact ⟨0, Nat.zero_le _, rfl, fun j x h => absurd h (Nat.not_lt_zero _), Below.refl _ _⟩
  case round =>
    obtain ⟨k, hk, rfl, hall, hbw⟩ := hrel
    have HALL := Lib.hid hall; have HBW := Lib.hid hbw
    clear hall
    by_cases hlt : k < n
    · obtain ⟨x, hx⟩ : ∃ x, l[k]? = some x := ⟨_, List.getElem?_eq_getElem (by have := HN.out; omega)⟩
      obtain ⟨bb, o, rfl, hbl, hr⟩ := (HPS.out.below hbw).at hx
      have HX := Lib.hid hx
      have HW := Lib.hid (HC.out x (List.mem_of_getElem? hx))
      have c0 : wr.cell? ⟨bb, o + k * 6, none⟩ = some (.int .i64 x.fl) := hr 0 _ rfl
      have c1 : wr.cell? ⟨bb, o + k * 6 + 1, none⟩ = some (.int .i64 x.dy) := hr 1 _ rfl
      have c2 : wr.cell? ⟨bb, o + k * 6 + 2, none⟩ = some (.int .i64 x.va) := hr 2 _ rfl
      have c3 : wr.cell? ⟨bb, o + k * 6 + 3, none⟩ = some (.int .i64 x.st) := hr 3 _ rfl
      have c4 : wr.cell? ⟨bb, o + k * 6 + 4, none⟩ = some (.int .i64 x.ho) := hr 4 _ rfl
      have c5 : wr.cell? ⟨bb, o + k * 6 + 5, none⟩ = some (.int .u64 x.nx) := hr 5 _ rfl
      clear hx hbw hr
      obtain ⟨y, hy⟩ : ∃ y, q x = y := ⟨_, rfl⟩
      rw [hy] at HW
      have HY := Lib.hid hy
      clear hy
      go_wp2_with fail
      refine (HW.out _ HBW.out).mono ?_
      rintro e w1 ⟨rfl, hb1⟩
      have HBW1 := Lib.hid (HBW.out.trans (hb1.mono HBW.out.size))
      clear hb1
      clear c0 c1 c2 c3 c4 c5
      cases y
      · go_wp2
        go_roundw
        case rel =>
          refine ⟨k + 1, by omega, by go_num, fun j z hj hz => ?_, HBW1.out⟩
          rcases Nat.lt_or_ge j k with h | h
          · exact HALL.out j z h hz
          · obtain rfl : j = k := by omega
            have := HX.out.symm.trans hz
            injection this with this
            rw [← this]
            exact HY.out
        case measure => simp [intOf]; omega
      · go_wp2
        go_ret
        refine ⟨⟨k, rfl, ?_⟩, HBW1.out⟩
        have := HBV.out.2 ⟨x, List.mem_of_getElem? HX.out, HY.out⟩
        rw [this]; simp
    · obtain rfl : k = n := by omega
      clear hbw
      go_wp2
      go_ret
      refine ⟨⟨-1, rfl, ?_⟩, HBW.out⟩
      cases bv
      · rfl
      · obtain ⟨x, hx, h1⟩ := HBV.out.1 rfl
        obtain ⟨j, hj⟩ := List.getElem?_of_mem hx
        have := HALL.out j x (by have := (List.getElem?_eq_some_iff.1 hj).1; have := HN.out; omega) hj
        rw [h1] at this
        cases this
theorem hasCp_any (l : List Cpn) (q : Cpn → Bool) (bv : Bool) (hbv : bv = true ↔ ∃ x ∈ l, q x = true) (p : Option Addr) (n cap : Nat) (g : Nat) (w : World) (hs : LS Cpn.cells 6 w (.slice p n cap) l)
    (hc : ∀ x ∈ l, ∀ W, Below w.heap.size w W → Calls Try.prog 58 #[.agg #[.int .i64 x.fl, .int .i64 x.dy, .int .i64 x.va, .int .i64 x.st, .int .i64 x.ho, .int .u64 x.nx], .pointer (some ⟨g, 0, none⟩)] W fun e w' => e = .returned (.bool (q x)) ∧ Below W.heap.size W w') :
    Calls Try.prog 57 #[.slice p n cap, .func (.func 58) #[] #[.pointer (some ⟨g, 0, none⟩)]] w fun e w' => e = .returned (.bool bv) ∧ Below w.heap.size w w' := by
  have H := Lib.hid (hasCpI_any l q bv hbv p n cap g w hs hc)
  clear hs hc hbv
  go_enter Try.func57, Try.ntmps57
  go_wp2_with fail
  refine H.out.mono ?_
  rintro e w1 ⟨⟨j, rfl, hj⟩, hb1⟩
  go_wp2
  go_ret
  exact ⟨rfl, hb1⟩
end Go.Proofs.Ytmadkfahkbdibaa
