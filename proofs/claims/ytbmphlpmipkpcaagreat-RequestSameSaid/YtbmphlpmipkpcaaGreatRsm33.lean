/- Contracts: the reference's requests: are two the same, how much one has, the names, the keys. -/
import Derived.Test.YtbmphlpmipkpcaaGreatRsm32

set_option linter.unusedVariables false
set_option linter.unusedSimpArgs false
namespace Go.Proofs.YtbmphlpmipkpcaaGreat
open Go.RowKit Go.Deep
section
attribute [local go_sem ↓] Cp_execLoad Tx_execLoad

attribute [local go_sem] Cp_load Tx_load loL_drew okL_drew

def hdR (a b : Rqt) : Bool := (a.key.toList == b.key.toList) && (a.k == b.k) && (a.d == b.d) && (a.tk == b.tk) && (a.c == b.c) && (a.st == b.st) && (a.loc.toList == b.loc.toList) && (a.am == b.am) && (a.fr == b.fr) && (a.tt == b.tt)
theorem hdR_iff (a b : Rqt) : hdR a b = true ↔ bareB a b = true := by
  unfold hdR bareB
  simp only [Bool.and_eq_true, beq_iff_eq, decide_eq_true_eq]
  constructor
  · rintro ⟨⟨⟨⟨⟨⟨⟨⟨⟨h1, h2⟩, h3⟩, h4⟩, h5⟩, h6⟩, h7⟩, h8⟩, h9⟩, h10⟩
    exact ⟨h2, h1, h7, h3, h5, h4, h6, h8, h9, h10⟩
  · rintro ⟨h2, h1, h7, h3, h5, h4, h6, h8, h9, h10⟩
    exact ⟨⟨⟨⟨⟨⟨⟨⟨⟨h1, h2⟩, h3⟩, h4⟩, h5⟩, h6⟩, h7⟩, h8⟩, h9⟩, h10⟩
theorem eqRq_iff (a b : Rqt) : eqRq a b = true ↔ hdR a b = true ∧ a.cs = b.cs ∧ a.xs = b.xs := by
  rw [hdR_iff]
  unfold eqRq
  simp only [Bool.and_eq_true, decide_eq_true_eq, and_assoc]
set_option maxRecDepth 4000 in
set_option maxHeartbeats 4000000 in
theorem rSame16_any (a b : Rqt) (p1 p2 s1 s2 : Option Addr) (n1 z1 n2 z2 m1 y1 m2 y2 : Nat) (w : World) (ha : LS Cpn.cells 6 w (.slice p1 n1 z1) a.cs) (hat : LS Txx.cells 2 w (.slice p2 n2 z2) a.xs) (hb : LS Cpn.cells 6 w (.slice s1 m1 y1) b.cs) (hbt : LS Txx.cells 2 w (.slice s2 m2 y2) b.xs) (bv : Bool) (hbv : bv = true ↔ hdR a b = true ∧ a.cs = b.cs ∧ a.xs = b.xs) : Calls Tryz.prog 23 #[.agg #[.string a.key, .int .i64 a.k, .int .i64 a.d, .int .u64 a.tk, .int .i64 a.c, .int .i64 a.st, .string a.loc, .slice p1 n1 z1, .slice p2 n2 z2, .int .i64 a.am, .int .i64 a.fr, .int .i64 a.tt], .agg #[.string b.key, .int .i64 b.k, .int .i64 b.d, .int .u64 b.tk, .int .i64 b.c, .int .i64 b.st, .string b.loc, .slice s1 m1 y1, .slice s2 m2 y2, .int .i64 b.am, .int .i64 b.fr, .int .i64 b.tt]] w fun e w' => e = .returned (.bool bv) ∧ Below w.heap.size w w' := by
  have HAC := Lib.hid ha; have HAX := Lib.hid hat; have HBC := Lib.hid hb; have HBX := Lib.hid hbt; have HBV := Lib.hid hbv
  have HNA1 := Lib.hid ha.length.1; have HNB1 := Lib.hid hb.length.1; have hna1 := ha.length.2; have hnb1 := hb.length.2
  have HNA2 := Lib.hid hat.length.1; have HNB2 := Lib.hid hbt.length.1; have hna2 := hat.length.2; have hnb2 := hbt.length.2
  unfold maxLen at hna1 hna2 hnb1 hnb2
  have HB := Lib.hid (((Below.refl w.heap.size w).alloc (Nat.le_refl _) (.cells #[.string a.key, .int .i64 a.k, .int .i64 a.d, .int .u64 a.tk, .int .i64 a.c, .int .i64 a.st, .string a.loc, .slice p1 n1 z1, .slice p2 n2 z2, .int .i64 a.am, .int .i64 a.fr, .int .i64 a.tt] 57 (0, 0))).alloc (by simp) (.cells #[.string b.key, .int .i64 b.k, .int .i64 b.d, .int .u64 b.tk, .int .i64 b.c, .int .i64 b.st, .string b.loc, .slice s1 m1 y1, .slice s2 m2 y2, .int .i64 b.am, .int .i64 b.fr, .int .i64 b.tt] 57 (0, 0)))
  have HRA : Hid (((w.alloc (.cells #[.string a.key, .int .i64 a.k, .int .i64 a.d, .int .u64 a.tk, .int .i64 a.c, .int .i64 a.st, .string a.loc, .slice p1 n1 z1, .slice p2 n2 z2, .int .i64 a.am, .int .i64 a.fr, .int .i64 a.tt] 57 (0, 0))).alloc (.cells #[.string b.key, .int .i64 b.k, .int .i64 b.d, .int .u64 b.tk, .int .i64 b.c, .int .i64 b.st, .string b.loc, .slice s1 m1 y1, .slice s2 m2 y2, .int .i64 b.am, .int .i64 b.fr, .int .i64 b.tt] 57 (0, 0))).heap[w.heap.size]? = some (.cells #[.string a.key, .int .i64 a.k, .int .i64 a.d, .int .u64 a.tk, .int .i64 a.c, .int .i64 a.st, .string a.loc, .slice p1 n1 z1, .slice p2 n2 z2, .int .i64 a.am, .int .i64 a.fr, .int .i64 a.tt] 57 (0, 0))) := Lib.hid (row_after (new_rowW _ _ _ rfl))
  have HRB : Hid (((w.alloc (.cells #[.string a.key, .int .i64 a.k, .int .i64 a.d, .int .u64 a.tk, .int .i64 a.c, .int .i64 a.st, .string a.loc, .slice p1 n1 z1, .slice p2 n2 z2, .int .i64 a.am, .int .i64 a.fr, .int .i64 a.tt] 57 (0, 0))).alloc (.cells #[.string b.key, .int .i64 b.k, .int .i64 b.d, .int .u64 b.tk, .int .i64 b.c, .int .i64 b.st, .string b.loc, .slice s1 m1 y1, .slice s2 m2 y2, .int .i64 b.am, .int .i64 b.fr, .int .i64 b.tt] 57 (0, 0))).heap[w.heap.size + 1]? = some (.cells #[.string b.key, .int .i64 b.k, .int .i64 b.d, .int .u64 b.tk, .int .i64 b.c, .int .i64 b.st, .string b.loc, .slice s1 m1 y1, .slice s2 m2 y2, .int .i64 b.am, .int .i64 b.fr, .int .i64 b.tt] 57 (0, 0))) := Lib.hid (new_rowW _ _ _ (by simp))
  clear ha hat hb hbt hbv
  go_enter Tryz.func23, Tryz.ntmps23
  go_upto_region 1 with fail
  generalize hWW : ((w.alloc (.cells #[.string a.key, .int .i64 a.k, .int .i64 a.d, .int .u64 a.tk, .int .i64 a.c, .int .i64 a.st, .string a.loc, .slice p1 n1 z1, .slice p2 n2 z2, .int .i64 a.am, .int .i64 a.fr, .int .i64 a.tt] 57 (0, 0))).alloc (.cells #[.string b.key, .int .i64 b.k, .int .i64 b.d, .int .u64 b.tk, .int .i64 b.c, .int .i64 b.st, .string b.loc, .slice s1 m1 y1, .slice s2 m2 y2, .int .i64 b.am, .int .i64 b.fr, .int .i64 b.tt] 57 (0, 0))) = W at *
  clear hWW
  have hca := fun j => cell_of_row W w.heap.size j _ _ _ HRA.out
  have hcb := fun j => cell_of_row W (w.heap.size + 1) j _ _ _ HRB.out
  obtain ⟨b1, e1⟩ : ∃ q, (a.key.toList == b.key.toList) = !q := ⟨!(a.key.toList == b.key.toList), by simp⟩
  obtain ⟨b2, e2⟩ : ∃ q, (a.k != b.k) = q := ⟨_, rfl⟩
  obtain ⟨b3, e3⟩ : ∃ q, (a.d != b.d) = q := ⟨_, rfl⟩
  obtain ⟨b4, e4⟩ : ∃ q, (a.tk != b.tk) = q := ⟨_, rfl⟩
  obtain ⟨b5, e5⟩ : ∃ q, (a.c != b.c) = q := ⟨_, rfl⟩
  obtain ⟨b6, e6⟩ : ∃ q, (a.st != b.st) = q := ⟨_, rfl⟩
  obtain ⟨b7, e7⟩ : ∃ q, (a.loc.toList == b.loc.toList) = !q := ⟨!(a.loc.toList == b.loc.toList), by simp⟩
  obtain ⟨b8, e8⟩ : ∃ q, (a.am != b.am) = q := ⟨_, rfl⟩
  obtain ⟨b9, e9⟩ : ∃ q, (a.fr != b.fr) = q := ⟨_, rfl⟩
  obtain ⟨b10, e10⟩ : ∃ q, (a.tt != b.tt) = q := ⟨_, rfl⟩
  have HDQ : Hid (hdR a b = !(b1 || b2 || b3 || b4 || b5 || b6 || b7 || b8 || b9 || b10)) := Lib.hid (by
      unfold hdR
      rw [← e2, ← e3, ← e4, ← e5, ← e6, ← e8, ← e9, ← e10, e1, e7]
      unfold bne
      simp only [Bool.not_or, Bool.not_not, Bool.and_assoc])
  cases b1
  case true =>
    have HF : Hid (bv = false) := Lib.hid (by
      cases hbq : bv
      · rfl
      · have h1 := (HBV.out.1 hbq).1
        rw [HDQ.out] at h1
        simp at h1)
    clear HDQ
    (try simp only [Bool.not_true, Bool.not_false] at e1 e7)
    (try simp only [Bool.not_true, Bool.not_false] at e7)
    go_wp2_with fail
    go_ret
    exact ⟨ret_bool HF.out.symm, HB.out⟩
  cases b2
  case true =>
    have HF : Hid (bv = false) := Lib.hid (by
      cases hbq : bv
      · rfl
      · have h1 := (HBV.out.1 hbq).1
        rw [HDQ.out] at h1
        simp at h1)
    clear HDQ
    (try simp only [Bool.not_true, Bool.not_false] at e1 e7)
    (try simp only [Bool.not_true, Bool.not_false] at e7)
    go_wp2_with fail
    go_ret
    exact ⟨ret_bool HF.out.symm, HB.out⟩
  cases b3
  case true =>
    have HF : Hid (bv = false) := Lib.hid (by
      cases hbq : bv
      · rfl
      · have h1 := (HBV.out.1 hbq).1
        rw [HDQ.out] at h1
        simp at h1)
    clear HDQ
    (try simp only [Bool.not_true, Bool.not_false] at e1 e7)
    (try simp only [Bool.not_true, Bool.not_false] at e7)
    go_wp2_with fail
    go_ret
    exact ⟨ret_bool HF.out.symm, HB.out⟩
  cases b4
  case true =>
    have HF : Hid (bv = false) := Lib.hid (by
      cases hbq : bv
      · rfl
      · have h1 := (HBV.out.1 hbq).1
        rw [HDQ.out] at h1
        simp at h1)
    clear HDQ
    (try simp only [Bool.not_true, Bool.not_false] at e1 e7)
    (try simp only [Bool.not_true, Bool.not_false] at e7)
    go_wp2_with fail
    go_ret
    exact ⟨ret_bool HF.out.symm, HB.out⟩
  cases b5
  case true =>
    have HF : Hid (bv = false) := Lib.hid (by
      cases hbq : bv
      · rfl
      · have h1 := (HBV.out.1 hbq).1
        rw [HDQ.out] at h1
        simp at h1)
    clear HDQ
    (try simp only [Bool.not_true, Bool.not_false] at e1 e7)
    (try simp only [Bool.not_true, Bool.not_false] at e7)
    go_wp2_with fail
    go_ret
    exact ⟨ret_bool HF.out.symm, HB.out⟩
  cases b6
  case true =>
    have HF : Hid (bv = false) := Lib.hid (by
      cases hbq : bv
      · rfl
      · have h1 := (HBV.out.1 hbq).1
        rw [HDQ.out] at h1
        simp at h1)
    clear HDQ
    (try simp only [Bool.not_true, Bool.not_false] at e1 e7)
    (try simp only [Bool.not_true, Bool.not_false] at e7)
    go_wp2_with fail
    go_ret
    exact ⟨ret_bool HF.out.symm, HB.out⟩
  cases b7
  case true =>
    have HF : Hid (bv = false) := Lib.hid (by
      cases hbq : bv
      · rfl
      · have h1 := (HBV.out.1 hbq).1
        rw [HDQ.out] at h1
        simp at h1)
    clear HDQ
    (try simp only [Bool.not_true, Bool.not_false] at e1 e7)
    (try simp only [Bool.not_true, Bool.not_false] at e7)
    go_wp2_with fail
    go_ret
    exact ⟨ret_bool HF.out.symm, HB.out⟩
  cases b8
  case true =>
    have HF : Hid (bv = false) := Lib.hid (by
      cases hbq : bv
      · rfl
      · have h1 := (HBV.out.1 hbq).1
        rw [HDQ.out] at h1
        simp at h1)
    clear HDQ
    (try simp only [Bool.not_true, Bool.not_false] at e1 e7)
    (try simp only [Bool.not_true, Bool.not_false] at e7)
    go_wp2_with fail
    go_ret
    exact ⟨ret_bool HF.out.symm, HB.out⟩
  cases b9
  case true =>
    have HF : Hid (bv = false) := Lib.hid (by
      cases hbq : bv
      · rfl
      · have h1 := (HBV.out.1 hbq).1
        rw [HDQ.out] at h1
        simp at h1)
    clear HDQ
    (try simp only [Bool.not_true, Bool.not_false] at e1 e7)
    (try simp only [Bool.not_true, Bool.not_false] at e7)
    go_wp2_with fail
    go_ret
    exact ⟨ret_bool HF.out.symm, HB.out⟩
  cases b10
  case true =>
    have HF : Hid (bv = false) := Lib.hid (by
      cases hbq : bv
      · rfl
      · have h1 := (HBV.out.1 hbq).1
        rw [HDQ.out] at h1
        simp at h1)
    clear HDQ
    (try simp only [Bool.not_true, Bool.not_false] at e1 e7)
    (try simp only [Bool.not_true, Bool.not_false] at e7)
    go_wp2_with fail
    go_ret
    exact ⟨ret_bool HF.out.symm, HB.out⟩
  have HHD : Hid (hdR a b = true) := Lib.hid (by rw [HDQ.out]; rfl)
  clear HDQ
  simp only [Bool.not_false] at e1 e7
  by_cases hln : n1 = m1 ∧ n2 = m2
  · obtain ⟨rfl, rfl⟩ := hln
    have hga := fun j => cell_of_row W w.heap.size j _ _ _ HRA.out
    have hgb := fun j => cell_of_row W (w.heap.size + 1) j _ _ _ HRB.out
    go_wp2_with fail
    clear hga hgb
    go_loopw [5] (fun i wr => ∃ k : Nat, k ≤ n1 ∧ i = .int .i64 k ∧ Below W.heap.size W wr ∧ a.cs.take k = b.cs.take k) (fun i _ => n1 - (intOf i).toNat)
    case atStart => exact ⟨0, Nat.zero_le _, rfl, Below.refl _ _, rfl⟩
    case round =>
      obtain ⟨k, hk, rfl, hbw, heq⟩ := hrel
      have HBW := Lib.hid hbw; have HEQ := Lib.hid heq
      have HRAr := Lib.hid ((hbw.block _ (block_lt HRA.out)).trans HRA.out)
      have HRBr := Lib.hid ((hbw.block _ (block_lt HRB.out)).trans HRB.out)
      have hga := fun j => cell_of_row wr w.heap.size j _ _ _ HRAr.out
      have hgb := fun j => cell_of_row wr (w.heap.size + 1) j _ _ _ HRBr.out
      clear heq hbw
      by_cases hlt : k < n1
      · obtain ⟨x, hx⟩ : ∃ x, a.cs[k]? = some x := ⟨_, List.getElem?_eq_getElem (by have := HNA1.out; omega)⟩
        obtain ⟨y, hy⟩ : ∃ y, b.cs[k]? = some y := ⟨_, List.getElem?_eq_getElem (by have := HNB1.out; omega)⟩
        have HX := Lib.hid hx; have HY := Lib.hid hy
        obtain ⟨bb, o, hp, hb1, hr⟩ := (HAC.out.below (HB.out.trans (HBW.out.mono HB.out.size))).at hx
        obtain ⟨bb2, o2, hp2, hb2, hr2⟩ := (HBC.out.below (HB.out.trans (HBW.out.mono HB.out.size))).at hy
        subst hp; subst hp2
        obtain ⟨f1, f2⟩ := loL_of hr (Cpn.cells_length x)
        obtain ⟨f3, f4⟩ := loL_of hr2 (Cpn.cells_length y)
        obtain ⟨q, hq⟩ : ∃ q, Cpn.eqB x y = q := ⟨_, rfl⟩
        have hE : ∀ W, (Op.equalIn 10000 33 (.agg x.cells.toArray) (.agg y.cells.toArray)).run Tryz.prog W = .ok q W := fun W => by rw [← hq]; exact eqInCp x y W
        have HQ := Lib.hid (hq ▸ Cpn.eqB_iff x y : (q = true ↔ x = y))
        have hG := guardneqCp
        have hG2 := guardeqlCp
        generalize x.cells = cx at *
        generalize y.cells = cy at *
        clear hx hy hr hr2 hq
        cases q
        · have HF : Hid (bv = false) := Lib.hid (by
            cases hbq : bv
            · rfl
            · have h1 := (HBV.out.1 hbq).2.1
              have h2 := HX.out
              rw [h1, HY.out] at h2
              injection h2 with h2
              exact absurd (HQ.out.2 h2.symm) (by simp))
          go_wp2_with fail
          go_region
          go_wp2
          go_ret
          exact ⟨ret_bool HF.out.symm, (HB.out.trans (HBW.out.mono HB.out.size)).drew⟩
        · go_wp2_with fail
          go_region
          go_wp2
          go_roundw
          case rel => exact ⟨k + 1, by omega, by go_num, HBW.out.drew, by rw [List.take_add_one, List.take_add_one, HX.out, HY.out, HEQ.out, HQ.out.1 (by trivial)]⟩
          case measure => simp [intOf]; omega
      · have hk2 : k = n1 := by omega
        clear hlt
        subst hk2
        have HE1 : Hid (a.cs = b.cs) := Lib.hid (by have := HEQ.out; rwa [List.take_of_length_le (by have := HNA1.out; omega), List.take_of_length_le (by have := HNB1.out; omega)] at this)
        have HB := Lib.hid (HB.out.trans (HBW.out.mono HB.out.size)); have HRA := HRAr; have HRB := HRBr
        clear hga hgb HBW HRAr HRBr HEQ
        generalize hWW : wr = W at *
        clear hWW
        have hga := fun j => cell_of_row W w.heap.size j _ _ _ HRA.out
        have hgb := fun j => cell_of_row W (w.heap.size + 1) j _ _ _ HRB.out
        go_wp2_with fail
        clear hga hgb
        go_loopw [6] (fun i wr => ∃ k : Nat, k ≤ n2 ∧ i = .int .i64 k ∧ Below W.heap.size W wr ∧ a.xs.take k = b.xs.take k) (fun i _ => n2 - (intOf i).toNat)
        case atStart => exact ⟨0, Nat.zero_le _, rfl, Below.refl _ _, rfl⟩
        case round =>
          obtain ⟨k, hk, rfl, hbw, heq⟩ := hrel
          have HBW := Lib.hid hbw; have HEQ := Lib.hid heq
          have HRAr := Lib.hid ((hbw.block _ (block_lt HRA.out)).trans HRA.out)
          have HRBr := Lib.hid ((hbw.block _ (block_lt HRB.out)).trans HRB.out)
          have hga := fun j => cell_of_row wr w.heap.size j _ _ _ HRAr.out
          have hgb := fun j => cell_of_row wr (w.heap.size + 1) j _ _ _ HRBr.out
          clear heq hbw
          by_cases hlt : k < n2
          · obtain ⟨x, hx⟩ : ∃ x, a.xs[k]? = some x := ⟨_, List.getElem?_eq_getElem (by have := HNA2.out; omega)⟩
            obtain ⟨y, hy⟩ : ∃ y, b.xs[k]? = some y := ⟨_, List.getElem?_eq_getElem (by have := HNB2.out; omega)⟩
            have HX := Lib.hid hx; have HY := Lib.hid hy
            obtain ⟨bb, o, hp, hb1, hr⟩ := (HAX.out.below (HB.out.trans (HBW.out.mono HB.out.size))).at hx
            obtain ⟨bb2, o2, hp2, hb2, hr2⟩ := (HBX.out.below (HB.out.trans (HBW.out.mono HB.out.size))).at hy
            subst hp; subst hp2
            obtain ⟨f1, f2⟩ := loL_of hr (Txx.cells_length x)
            obtain ⟨f3, f4⟩ := loL_of hr2 (Txx.cells_length y)
            obtain ⟨q, hq⟩ : ∃ q, Txx.eqB x y = q := ⟨_, rfl⟩
            have hE : ∀ W, (Op.equalIn 10000 127 (.agg x.cells.toArray) (.agg y.cells.toArray)).run Tryz.prog W = .ok q W := fun W => by rw [← hq]; exact eqInTx x y W
            have HQ := Lib.hid (hq ▸ Txx.eqB_iff x y : (q = true ↔ x = y))
            have hG := guardneqTx
            have hG2 := guardeqlTx
            generalize x.cells = cx at *
            generalize y.cells = cy at *
            clear hx hy hr hr2 hq
            cases q
            · have HF : Hid (bv = false) := Lib.hid (by
                cases hbq : bv
                · rfl
                · have h1 := (HBV.out.1 hbq).2.2
                  have h2 := HX.out
                  rw [h1, HY.out] at h2
                  injection h2 with h2
                  exact absurd (HQ.out.2 h2.symm) (by simp))
              go_wp2_with fail
              go_region
              go_wp2
              go_ret
              exact ⟨ret_bool HF.out.symm, (HB.out.trans (HBW.out.mono HB.out.size)).drew⟩
            · go_wp2_with fail
              go_region
              go_wp2
              go_roundw
              case rel => exact ⟨k + 1, by omega, by go_num, HBW.out.drew, by rw [List.take_add_one, List.take_add_one, HX.out, HY.out, HEQ.out, HQ.out.1 (by trivial)]⟩
              case measure => simp [intOf]; omega
          · have hk2 : k = n2 := by omega
            clear hlt
            subst hk2
            have HE2 : Hid (a.xs = b.xs) := Lib.hid (by have := HEQ.out; rwa [List.take_of_length_le (by have := HNA2.out; omega), List.take_of_length_le (by have := HNB2.out; omega)] at this)
            have HF : Hid (bv = true) := Lib.hid (HBV.out.2 ⟨HHD.out, HE1.out, HE2.out⟩)
            go_wp2
            go_ret
            exact ⟨ret_bool HF.out.symm, HB.out.trans (HBW.out.mono HB.out.size)⟩
  · have HF : Hid (bv = false) := Lib.hid (by
      cases hbq : bv
      · rfl
      · obtain ⟨-, h1, h2⟩ := HBV.out.1 hbq
        refine absurd ?_ hln
        have e1 : n1 = a.cs.length := HNA1.out; have e2 : n2 = a.xs.length := HNA2.out; have e4 : m1 = b.cs.length := HNB1.out; have e5 : m2 = b.xs.length := HNB2.out
        rw [h1] at e1
        rw [h2] at e2
        omega)
    have hl2 : ¬ (n1 : Int) = (m1 : Int) ∨ ((n1 : Int) = m1 ∧ ¬ (n2 : Int) = (m2 : Int)) := by omega
    clear hln
    rcases hl2 with h1 | ⟨h1, h2⟩
    all_goals
      go_wp2
      go_ret
      exact ⟨ret_bool HF.out.symm, HB.out⟩
end
end Go.Proofs.YtbmphlpmipkpcaaGreat
