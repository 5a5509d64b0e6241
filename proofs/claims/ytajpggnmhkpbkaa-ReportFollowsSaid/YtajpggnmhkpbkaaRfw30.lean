/- Contracts: the reference's Same of any two lists of postings, and of any two reports. Records in memory: more words. -/
import Derived.Test.YtajpggnmhkpbkaaRfw28
import Derived.Test.YtajpggnmhkpbkaaRfw29
import Derived.Test.YtajpggnmhkpbkaaRfw13

section
set_option linter.unusedVariables false
set_option linter.unusedSimpArgs false
namespace Go.Proofs.Ytajpggnmhkpbkaa
open Go.RowKit
attribute [local go_sem ↓] post_execLoad post_execStore

attribute [local go_sem] post_load post_store loL_drew okL_drew there_sc World.there_drew

set_option maxRecDepth 4000 in
theorem eqInG (x y : Pst) (w : World) : (Op.equalIn 10000 68 (.agg x.cells.toArray) (.agg y.cells.toArray)).run Try.prog w = .ok (Rep.sameP x y) w := by
  have hS : Try.prog.underlying 68 = some (.struct (Try.prog.fieldsOf 68)) := by kernel_rfl
  have hp : Try.prog.stoodInHeld 68 = false := by kernel_rfl
  unfold Pst.cells Rep.sameP
  rw [show (10000 : Nat) = 9999 + 1 from rfl, run_equalIn_agg w 9999 68 _ _ hS hp]
  simp only [Program.fieldsOf, Try.underlying68]
  go_simp
  repeat' split
  all_goals simp [*]

set_option maxRecDepth 4000 in
set_option maxHeartbeats 400000 in
theorem rSameL_any (l m : List Pst) (bv : Bool) (hbv : bv = true ↔ l = m) (p p' : Option Addr) (n n' cap cap' : Nat) (w : World) (hs : LS Pst.cells 10 w (.slice p n cap) l) (hs' : LS Pst.cells 10 w (.slice p' n' cap') m) :
    Calls Try.prog 50 #[.slice p n cap, .slice p' n' cap'] w fun e w' => e = .returned (.bool bv) ∧ Below w.heap.size w w' := by
  have HL := Lib.hid hs.length
  have HL' := Lib.hid hs'.length
  have HS := Lib.hid hs; have HS' := Lib.hid hs'; have HBV := Lib.hid hbv
  have hmax : n ≤ 9223372036854775807 := by have h1 := HL.out.2.1; have h2 := HL.out.2.2; simp only [maxLen] at h2; omega
  have hmax' : n' ≤ 9223372036854775807 := by have h1 := HL'.out.2.1; have h2 := HL'.out.2.2; simp only [maxLen] at h2; omega
  clear hs hs' hbv
  by_cases hnn : n = n'
  · subst hnn
    go_enter Try.func50, Try.ntmps50
    go_wp2
    go_loopw [5] (fun i wr => ∃ k : Nat, k ≤ n ∧ i = .int .i64 k ∧ Below w.heap.size w wr ∧ l.take k = m.take k) (fun i _ => n - (intOf i).toNat)
    case atStart => exact ⟨0, Nat.zero_le _, rfl, Below.refl _ _, rfl⟩
    case round =>
      obtain ⟨k, hk, rfl, hbw, heq⟩ := hrel
      have HBW := Lib.hid hbw; have HEQ := Lib.hid heq
      clear heq
      by_cases hlt : k < n
      · obtain ⟨x, hx⟩ : ∃ x, l[k]? = some x := ⟨_, List.getElem?_eq_getElem (by have := HL.out.1; omega)⟩
        obtain ⟨y, hy⟩ : ∃ y, m[k]? = some y := ⟨_, List.getElem?_eq_getElem (by have := HL'.out.1; omega)⟩
        have HX := Lib.hid hx; have HY := Lib.hid hy
        obtain ⟨b, o, rfl, hb, hr⟩ := (HS.out.below hbw).at hx
        obtain ⟨b', o', rfl, hb', hr'⟩ := (HS'.out.below hbw).at hy
        obtain ⟨f1, f2⟩ := loL_of hr (Pst.cells_length x)
        obtain ⟨f3, f4⟩ := loL_of hr' (Pst.cells_length y)
        obtain ⟨q, hq⟩ : ∃ q, Rep.sameP x y = q := ⟨_, rfl⟩
        have hE : ∀ W, (Op.equalIn 10000 68 (.agg x.cells.toArray) (.agg y.cells.toArray)).run Try.prog W = .ok q W := fun W => by rw [← hq]; exact eqInG x y W
        have HQ := Lib.hid (hq ▸ Rep.sameP_iff x y : (q = true ↔ x = y))
        have hG := guardPn
        generalize x.cells = cx at *
        generalize y.cells = cy at *
        clear hx hy hr hr' hbw hq
        cases q
        · go_wp2_with fail
          go_region
          go_wp2
          go_ret
          refine ⟨ret_bool ?_, HBW.out.drew⟩
          cases hb : bv
          · rfl
          · have h1 := HBV.out.1 hb
            have h2 := HX.out
            rw [h1, HY.out] at h2
            injection h2 with h2
            exact absurd (HQ.out.2 h2.symm) (by simp)
        · go_wp2_with fail
          go_region
          go_wp2
          go_roundw
          case rel => exact ⟨k + 1, by omega, by go_num, HBW.out.drew, by rw [List.take_add_one, List.take_add_one, HX.out, HY.out, HEQ.out, HQ.out.1 (by trivial)]⟩
          case measure => simp [intOf]; omega
      · obtain rfl : k = n := by omega
        have HF : Hid (bv = true) := Lib.hid (HBV.out.2 (by
          have := HEQ.out
          rwa [List.take_of_length_le (by have := HL.out.1; omega), List.take_of_length_le (by have := HL'.out.1; omega)] at this))
        go_wp2
        go_ret
        exact ⟨ret_bool HF.out.symm, HBW.out⟩
  · have HF : Hid (bv = false) := Lib.hid (by
      cases hb : bv
      · rfl
      · exact absurd (by rw [HL.out.1, HL'.out.1, HBV.out.1 hb]) hnn)
    have hnni : ¬ (n : Int) = (n' : Int) := by omega
    go_enter Try.func50, Try.ntmps50
    go_wp2
    go_ret
    exact ⟨ret_bool HF.out.symm, Below.refl _ _⟩
/-PART2-/
def Rep.sameT (m x0 x1 x2 x3 x4 x5 m' y0 y1 y2 y3 y4 y5 : Int) : Bool := m == m' && (x0 == y0 && (x1 == y1 && (x2 == y2 && (x3 == y3 && (x4 == y4 && (x5 == y5))))))
theorem Rep.sameT_iff (m x0 x1 x2 x3 x4 x5 m' y0 y1 y2 y3 y4 y5 : Int) : Rep.sameT m x0 x1 x2 x3 x4 x5 m' y0 y1 y2 y3 y4 y5 = true ↔ (m = m' ∧ x0 = y0 ∧ x1 = y1 ∧ x2 = y2 ∧ x3 = y3 ∧ x4 = y4 ∧ x5 = y5) := by
  simp [Rep.sameT]
set_option maxRecDepth 4000 in
theorem eqInTG (m x0 x1 x2 x3 x4 x5 m' y0 y1 y2 y3 y4 y5 : Int) (w : World) : (Op.equalIn 10000 41 (.agg #[.int .i64 m, .int .i64 x0, .int .i64 x1, .int .i64 x2, .int .i64 x3, .int .i64 x4, .int .i64 x5]) (.agg #[.int .i64 m', .int .i64 y0, .int .i64 y1, .int .i64 y2, .int .i64 y3, .int .i64 y4, .int .i64 y5])).run Try.prog w = .ok (Rep.sameT m x0 x1 x2 x3 x4 x5 m' y0 y1 y2 y3 y4 y5) w := by
  have hS : Try.prog.underlying 41 = some (.struct (Try.prog.fieldsOf 41)) := by kernel_rfl
  have hp : Try.prog.stoodInHeld 41 = false := by kernel_rfl
  unfold Rep.sameT
  rw [show (10000 : Nat) = 9999 + 1 from rfl, run_equalIn_agg w 9999 41 _ _ hS hp]
  simp only [Program.fieldsOf, Try.underlying41]
  go_simp
  repeat' split
  all_goals simp [*]
theorem eqTG (m x0 x1 x2 x3 x4 x5 m' y0 y1 y2 y3 y4 y5 : Int) (w : World) : (binOp .eql 41 (.agg #[.int .i64 m, .int .i64 x0, .int .i64 x1, .int .i64 x2, .int .i64 x3, .int .i64 x4, .int .i64 x5]) (.agg #[.int .i64 m', .int .i64 y0, .int .i64 y1, .int .i64 y2, .int .i64 y3, .int .i64 y4, .int .i64 y5])).run Try.prog w = .ok (.bool (Rep.sameT m x0 x1 x2 x3 x4 x5 m' y0 y1 y2 y3 y4 y5)) w := by
  have hS : Try.prog.underlying 41 = some (.struct (Try.prog.fieldsOf 41)) := by kernel_rfl
  have hp : Try.prog.stoodInHeld 41 = false := by kernel_rfl
  rw [run_eql_struct]
  have := eqInTG m x0 x1 x2 x3 x4 x5 m' y0 y1 y2 y3 y4 y5 w
  simp only [this, go_sem]
  rfl
theorem guardTe (x y : Operand) (xs ys : Array Value) (w : World) : (eqGuard .eql 41 x y (.agg xs) (.agg ys)).run Try.prog w = .ok () w := run_eqGuard_agg w _ _ _ _ _ _ (by kernel_rfl)

set_option maxRecDepth 4000 in
set_option maxHeartbeats 1000000 in
theorem rSameR_any (f t f' t' m x0 x1 x2 x3 x4 x5 m' y0 y1 y2 y3 y4 y5 : Int) (l l' : List Pst) (p p' : Option Addr) (n n' cap cap' : Nat) (bv : Bool) (hbv : bv = true ↔ (f = f' ∧ t = t' ∧ (m = m' ∧ x0 = y0 ∧ x1 = y1 ∧ x2 = y2 ∧ x3 = y3 ∧ x4 = y4 ∧ x5 = y5) ∧ l = l')) (w : World) (hs : LS Pst.cells 10 w (.slice p n cap) l) (hs' : LS Pst.cells 10 w (.slice p' n' cap') l') :
    Calls Try.prog 19 #[.agg #[.int .i64 f, .int .i64 t, .slice p n cap, .int .i64 m, .int .i64 x0, .int .i64 x1, .int .i64 x2, .int .i64 x3, .int .i64 x4, .int .i64 x5], .agg #[.int .i64 f', .int .i64 t', .slice p' n' cap', .int .i64 m', .int .i64 y0, .int .i64 y1, .int .i64 y2, .int .i64 y3, .int .i64 y4, .int .i64 y5]] w fun e w' => e = .returned (.bool bv) ∧ Below w.heap.size w w' := by
  have hb0 := (((Below.refl w.heap.size w).alloc (Nat.le_refl _) (.cells #[.int .i64 f, .int .i64 t, .slice p n cap, .int .i64 m, .int .i64 x0, .int .i64 x1, .int .i64 x2, .int .i64 x3, .int .i64 x4, .int .i64 x5] 43 (0, 0))).alloc (by simp) (.cells #[.int .i64 f', .int .i64 t', .slice p' n' cap', .int .i64 m', .int .i64 y0, .int .i64 y1, .int .i64 y2, .int .i64 y3, .int .i64 y4, .int .i64 y5] 43 (0, 0)))
  have HB0 := Lib.hid hb0
  have HS := Lib.hid (hs.below hb0); have HS' := Lib.hid (hs'.below hb0)
  have HBV := Lib.hid hbv
  clear hs hs' hb0 hbv
  by_cases hf : f = f'
  · subst hf
    by_cases ht : t = t'
    · subst ht
      obtain ⟨q, hq⟩ : ∃ q, Rep.sameT m x0 x1 x2 x3 x4 x5 m' y0 y1 y2 y3 y4 y5 = q := ⟨_, rfl⟩
      have hE1 : ∀ W, (Op.equalIn 10000 41 (.agg #[.int .i64 m, .int .i64 x0, .int .i64 x1, .int .i64 x2, .int .i64 x3, .int .i64 x4, .int .i64 x5]) (.agg #[.int .i64 m', .int .i64 y0, .int .i64 y1, .int .i64 y2, .int .i64 y3, .int .i64 y4, .int .i64 y5])).run Try.prog W = .ok q W := fun W => by rw [← hq]; exact eqInTG m x0 x1 x2 x3 x4 x5 m' y0 y1 y2 y3 y4 y5 W
      have hE2 : ∀ W, (binOp .eql 41 (.agg #[.int .i64 m, .int .i64 x0, .int .i64 x1, .int .i64 x2, .int .i64 x3, .int .i64 x4, .int .i64 x5]) (.agg #[.int .i64 m', .int .i64 y0, .int .i64 y1, .int .i64 y2, .int .i64 y3, .int .i64 y4, .int .i64 y5])).run Try.prog W = .ok (.bool q) W := fun W => by rw [← hq]; exact eqTG m x0 x1 x2 x3 x4 x5 m' y0 y1 y2 y3 y4 y5 W
      have hG := guardTe
      have HQ := Lib.hid (hq ▸ Rep.sameT_iff m x0 x1 x2 x3 x4 x5 m' y0 y1 y2 y3 y4 y5 : (q = true ↔ (m = m' ∧ x0 = y0 ∧ x1 = y1 ∧ x2 = y2 ∧ x3 = y3 ∧ x4 = y4 ∧ x5 = y5)))
      clear hq
      cases q
      · have HF : Hid (bv = false) := Lib.hid (by
          cases hb : bv
          · rfl
          · exact absurd (HQ.out.2 (HBV.out.1 hb).2.2.1) (by simp))
        go_enter Try.func19, Try.ntmps19
        go_wp2
        go_ret
        exact ⟨ret_bool HF.out.symm, HB0.out⟩
      · have HF : Hid (bv = true ↔ l = l') := Lib.hid ⟨fun h => (HBV.out.1 h).2.2.2, fun h => HBV.out.2 ⟨rfl, rfl, HQ.out.1 (by trivial), h⟩⟩
        go_enter Try.func19, Try.ntmps19
        go_wp2_with fail
        refine (rSameL_any l l' bv HF.out p p' n n' cap cap' _ HS.out HS'.out).mono ?_
        rintro e w1 ⟨rfl, hb1⟩
        have HB1 := Lib.hid (HB0.out.trans (hb1.mono HB0.out.size))
        clear hb1
        go_wp2
        go_ret
        exact ⟨rfl, HB1.out⟩
    · have HF : Hid (bv = false) := Lib.hid (by
        cases hb : bv
        · rfl
        · exact absurd (HBV.out.1 hb).2.1 ht)
      go_enter Try.func19, Try.ntmps19
      go_wp2
      go_ret
      exact ⟨ret_bool HF.out.symm, HB0.out⟩
  · have HF : Hid (bv = false) := Lib.hid (by
      cases hb : bv
      · rfl
      · exact absurd (HBV.out.1 hb).1 hf)
    go_enter Try.func19, Try.ntmps19
    go_wp2
    go_ret
    exact ⟨ret_bool HF.out.symm, HB0.out⟩
end Go.Proofs.Ytajpggnmhkpbkaa
end

section
set_option linter.unusedVariables false
set_option linter.unusedSimpArgs false
namespace Go.Proofs.Ytajpggnmhkpbkaa
open Go.RowKit
variable {α : Type} {enc : α → List Value} {n : Nat}
theorem row_one {w : World} {g : Nat} {e : TypeId} {x : α} {cs : Array Value} (hh : w.heap[g]? = some (.cells cs e (0, 0))) (hc : cs = (enc x).toArray) (hn : ∀ x, (enc x).length = n) (hp : 0 < n) : LS enc n w (.slice (some ⟨g, 0, none⟩) 1 1) [x] := by
  subst hc
  have h : RowL enc n w g [x] := RowL.of_block hh hn (by simp [hn]) (by rw [show [x].length * n = n from Nat.one_mul n]; simp [encL, ← hn x])
  exact h.slice hn hp (Nat.le_refl _) (by simp [maxLen])
end Go.Proofs.Ytajpggnmhkpbkaa
end
