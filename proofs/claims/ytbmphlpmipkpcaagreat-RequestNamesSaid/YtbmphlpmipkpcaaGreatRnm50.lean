/- Contracts: the reference's requests: are two the same, how much one has, the names, the keys. Contract: the reference's May of requests (16). -/
import Derived.Test.YtbmphlpmipkpcaaGreatRnm26
import Derived.Test.YtbmphlpmipkpcaaGreatRnm49

section
set_option linter.unusedVariables false
set_option linter.unusedSimpArgs false
namespace Go.Proofs.YtbmphlpmipkpcaaGreat
open Go.RowKit Go.Deep
section
attribute [local go_sem ↓] Cp_execLoad Tx_execLoad

attribute [local go_sem] Cp_load Tx_load loL_drew okL_drew

def hdR (a b : Rqt) : Bool := (a.key.toList == b.key.toList) && (a.k == b.k) && (a.d == b.d) && (a.tk == b.tk) && (a.c == b.c) && (a.st == b.st) && (a.loc.toList == b.loc.toList) && (a.am == b.am) && (a.fr == b.fr) && (a.tt == b.tt)
theorem hdR_iff (a b : Rqt) : hdR a b = true ↔ bareB a b = true := by
  unfold hdR bareB
  simp only [Bool.and_eq_true, beq_iff_eq, decide_eq_true_eq]
  constructor
  · rintro ⟨⟨⟨⟨⟨⟨⟨⟨⟨h1, h2⟩, h3⟩, h4⟩, h5⟩, h6⟩, h7⟩, h8⟩, h9⟩, h10⟩
    exact ⟨h2, h1, h7, h3, h5, h4, h6, h8, h9, h10⟩
  · rintro ⟨h2, h1, h7, h3, h5, h4, h6, h8, h9, h10⟩
    exact ⟨⟨⟨⟨⟨⟨⟨⟨⟨h1, h2⟩, h3⟩, h4⟩, h5⟩, h6⟩, h7⟩, h8⟩, h9⟩, h10⟩
theorem eqRq_iff (a b : Rqt) : eqRq a b = true ↔ hdR a b = true ∧ a.cs = b.cs ∧ a.xs = b.xs := by
  rw [hdR_iff]
  unfold eqRq
  simp only [Bool.and_eq_true, decide_eq_true_eq, and_assoc]
set_option maxRecDepth 4000 in
set_option maxHeartbeats 4000000 in
theorem rSame16_any (a b : Rqt) (p1 p2 s1 s2 : Option Addr) (n1 z1 n2 z2 m1 y1 m2 y2 : Nat) (w : World) (ha : LS Cpn.cells 6 w (.slice p1 n1 z1) a.cs) (hat : LS Txx.cells 2 w (.slice p2 n2 z2) a.xs) (hb : LS Cpn.cells 6 w (.slice s1 m1 y1) b.cs) (hbt : LS Txx.cells 2 w (.slice s2 m2 y2) b.xs) (bv : Bool) (hbv : bv = true ↔ hdR a b = true ∧ a.cs = b.cs ∧ a.xs = b.xs) : Calls Tryz.prog 23 #[.agg #[.string a.key, .int .i64 a.k, .int .i64 a.d, .int .u64 a.tk, .int .i64 a.c, .int .i64 a.st, .string a.loc, .slice p1 n1 z1, .slice p2 n2 z2, .int .i64 a.am, .int .i64 a.fr, .int .i64 a.tt], .agg #[.string b.key, .int .i64 b.k, .int .i64 b.d, .int .u64 b.tk, .int .i64 b.c, .int .i64 b.st, .string b.loc, .slice s1 m1 y1, .slice s2 m2 y2, .int .i64 b.am, .int .i64 b.fr, .int .i64 b.tt]] w fun e w' => e = .returned (.bool bv) ∧ Below w.heap.size w w' := by
  have HAC := Lib.hid ha; have HAX := Lib.hid hat; have HBC := Lib.hid hb; have HBX := Lib.hid hbt; have HBV := Lib.hid hbv
  have HNA1 := Lib.hid ha.length.1; have HNB1 := Lib.hid hb.length.1; have hna1 := ha.length.2; have hnb1 := hb.length.2
  have HNA2 := Lib.hid hat.length.1; have HNB2 := Lib.hid hbt.length.1; have hna2 := hat.length.2; have hnb2 := hbt.length.2
  unfold maxLen at hna1 hna2 hnb1 hnb2
  have HB := Lib.hid (((Below.refl w.heap.size w).alloc (Nat.le_refl _) (.cells #[.string a.key, .int .i64 a.k, .int .i64 a.d, .int .u64 a.tk, .int .i64 a.c, .int .i64 a.st, .string a.loc, .slice p1 n1 z1, .slice p2 n2 z2, .int .i64 a.am, .int .i64 a.fr, .int .i64 a.tt] 57 (0, 0))).alloc (by simp) (.cells #[.string b.key, .int .i64 b.k, .int .i64 b.d, .int .u64 b.tk, .int .i64 b.c, .int .i64 b.st, .string b.loc, .slice s1 m1 y1, .slice s2 m2 y2, .int .i64 b.am, .int .i64 b.fr, .int .i64 b.tt] 57 (0, 0)))
  have HRA : Hid (((w.alloc (.cells #[.string a.key, .int .i64 a.k, .int .i64 a.d, .int .u64 a.tk, .int .i64 a.c, .int .i64 a.st, .string a.loc, .slice p1 n1 z1, .slice p2 n2 z2, .int .i64 a.am, .int .i64 a.fr, .int .i64 a.tt] 57 (0, 0))).alloc (.cells #[.string b.key, .int .i64 b.k, .int .i64 b.d, .int .u64 b.tk, .int .i64 b.c, .int .i64 b.st, .string b.loc, .slice s1 m1 y1, .slice s2 m2 y2, .int .i64 b.am, .int .i64 b.fr, .int .i64 b.tt] 57 (0, 0))).heap[w.heap.size]? = some (.cells #[.string a.key, .int .i64 a.k, .int .i64 a.d, .int .u64 a.tk, .int .i64 a.c, .int .i64 a.st, .string a.loc, .slice p1 n1 z1, .slice p2 n2 z2, .int .i64 a.am, .int .i64 a.fr, .int .i64 a.tt] 57 (0, 0))) := Lib.hid (row_after (new_rowW _ _ _ rfl))
  have HRB : Hid (((w.alloc (.cells #[.string a.key, .int .i64 a.k, .int .i64 a.d, .int .u64 a.tk, .int .i64 a.c, .int .i64 a.st, .string a.loc, .slice p1 n1 z1, .slice p2 n2 z2, .int .i64 a.am, .int .i64 a.fr, .int .i64 a.tt] 57 (0, 0))).alloc (.cells #[.string b.key, .int .i64 b.k, .int .i64 b.d, .int .u64 b.tk, .int .i64 b.c, .int .i64 b.st, .string b.loc, .slice s1 m1 y1, .slice s2 m2 y2, .int .i64 b.am, .int .i64 b.fr, .int .i64 b.tt] 57 (0, 0))).heap[w.heap.size + 1]? = some (.cells #[.string b.key, .int .i64 b.k, .int .i64 b.d, .int .u64 b.tk, .int .i64 b.c, .int .i64 b.st, .string b.loc, .slice s1 m1 y1, .slice s2 m2 y2, .int .i64 b.am, .int .i64 b.fr, .int .i64 b.tt] 57 (0, 0))) := Lib.hid (new_rowW _ _ _ (by simp))
  clear ha hat hb hbt hbv
  go_enter Tryz.func23, Tryz.ntmps23
  go_upto_region 1 with fail
  generalize hWW : ((w.alloc (.cells #[.string a.key, .int .i64 a.k, .int .i64 a.d, .int .u64 a.tk, .int .i64 a.c, .int .i64 a.st, .string a.loc, .slice p1 n1 z1, .slice p2 n2 z2, .int .i64 a.am, .int .i64 a.fr, .int .i64 a.tt] 57 (0, 0))).alloc (.cells #[.string b.key, .int .i64 b.k, .int .i64 b.d, .int .u64 b.tk, .int .i64 b.c, .int .i64 b.st, .string b.loc, .slice s1 m1 y1, .slice s2 m2 y2, .int .i64 b.am, .int .i64 b.fr, .int .i64 b.tt] 57 (0, 0))) = W at *
  clear hWW
  have hca := fun j => cell_of_row W w.heap.size j _ _ _ HRA.out
  have hcb := fun j => cell_of_row W (w.heap.size + 1) j _ _ _ HRB.out
  obtain ⟨b1, e1⟩ : ∃ q, (a.key.toList == b.key.toList) = !q := ⟨!(a.key.toList == b.key.toList), by simp⟩
  obtain ⟨b2, e2⟩ : ∃ q, (a.k != b.k) = q := ⟨_, rfl⟩
  obtain ⟨b3, e3⟩ : ∃ q, (a.d != b.d) = q := ⟨_, rfl⟩
  obtain ⟨b4, e4⟩ : ∃ q, (a.tk != b.tk) = q := ⟨_, rfl⟩
  obtain ⟨b5, e5⟩ : ∃ q, (a.c != b.c) = q := ⟨_, rfl⟩
  obtain ⟨b6, e6⟩ : ∃ q, (a.st != b.st) = q := ⟨_, rfl⟩
  obtain ⟨b7, e7⟩ : ∃ q, (a.loc.toList == b.loc.toList) = !q := ⟨!(a.loc.toList == b.loc.toList), by simp⟩
  obtain ⟨b8, e8⟩ : ∃ q, (a.am != b.am) = q := ⟨_, rfl⟩
  obtain ⟨b9, e9⟩ : ∃ q, (a.fr != b.fr) = q := ⟨_, rfl⟩
  obtain ⟨b10, e10⟩ : ∃ q, (a.tt != b.tt) = q := ⟨_, rfl⟩
  have HDQ : Hid (hdR a b = !(b1 || b2 || b3 || b4 || b5 || b6 || b7 || b8 || b9 || b10)) := Lib.hid (by
      unfold hdR
      rw [← e2, ← e3, ← e4, ← e5, ← e6, ← e8, ← e9, ← e10, e1, e7]
      unfold bne
      simp only [Bool.not_or, Bool.not_not, Bool.and_assoc])
  cases b1
  case true =>
    have HF : Hid (bv = false) := Lib.hid (by
      cases hbq : bv
      · rfl
      · have h1 := (HBV.out.1 hbq).1
        rw [HDQ.out] at h1
        simp at h1)
    clear HDQ
    (try simp only [Bool.not_true, Bool.not_false] at e1 e7)
    (try simp only [Bool.not_true, Bool.not_false] at e7)
    go_wp2_with fail
    go_ret
    exact ⟨ret_bool HF.out.symm, HB.out⟩
  cases b2
  case true =>
    have HF : Hid (bv = false) := Lib.hid (by
      cases hbq : bv
      · rfl
      · have h1 := (HBV.out.1 hbq).1
        rw [HDQ.out] at h1
        simp at h1)
    clear HDQ
    (try simp only [Bool.not_true, Bool.not_false] at e1 e7)
    (try simp only [Bool.not_true, Bool.not_false] at e7)
    go_wp2_with fail
    go_ret
    exact ⟨ret_bool HF.out.symm, HB.out⟩
  cases b3
  case true =>
    have HF : Hid (bv = false) := Lib.hid (by
      cases hbq : bv
      · rfl
      · have h1 := (HBV.out.1 hbq).1
        rw [HDQ.out] at h1
        simp at h1)
    clear HDQ
    (try simp only [Bool.not_true, Bool.not_false] at e1 e7)
    (try simp only [Bool.not_true, Bool.not_false] at e7)
    go_wp2_with fail
    go_ret
    exact ⟨ret_bool HF.out.symm, HB.out⟩
  cases b4
  case true =>
    have HF : Hid (bv = false) := Lib.hid (by
      cases hbq : bv
      · rfl
      · have h1 := (HBV.out.1 hbq).1
        rw [HDQ.out] at h1
        simp at h1)
    clear HDQ
    (try simp only [Bool.not_true, Bool.not_false] at e1 e7)
    (try simp only [Bool.not_true, Bool.not_false] at e7)
    go_wp2_with fail
    go_ret
    exact ⟨ret_bool HF.out.symm, HB.out⟩
  cases b5
  case true =>
    have HF : Hid (bv = false) := Lib.hid (by
      cases hbq : bv
      · rfl
      · have h1 := (HBV.out.1 hbq).1
        rw [HDQ.out] at h1
        simp at h1)
    clear HDQ
    (try simp only [Bool.not_true, Bool.not_false] at e1 e7)
    (try simp only [Bool.not_true, Bool.not_false] at e7)
    go_wp2_with fail
    go_ret
    exact ⟨ret_bool HF.out.symm, HB.out⟩
  cases b6
  case true =>
    have HF : Hid (bv = false) := Lib.hid (by
      cases hbq : bv
      · rfl
      · have h1 := (HBV.out.1 hbq).1
        rw [HDQ.out] at h1
        simp at h1)
    clear HDQ
    (try simp only [Bool.not_true, Bool.not_false] at e1 e7)
    (try simp only [Bool.not_true, Bool.not_false] at e7)
    go_wp2_with fail
    go_ret
    exact ⟨ret_bool HF.out.symm, HB.out⟩
  cases b7
  case true =>
    have HF : Hid (bv = false) := Lib.hid (by
      cases hbq : bv
      · rfl
      · have h1 := (HBV.out.1 hbq).1
        rw [HDQ.out] at h1
        simp at h1)
    clear HDQ
    (try simp only [Bool.not_true, Bool.not_false] at e1 e7)
    (try simp only [Bool.not_true, Bool.not_false] at e7)
    go_wp2_with fail
    go_ret
    exact ⟨ret_bool HF.out.symm, HB.out⟩
  cases b8
  case true =>
    have HF : Hid (bv = false) := Lib.hid (by
      cases hbq : bv
      · rfl
      · have h1 := (HBV.out.1 hbq).1
        rw [HDQ.out] at h1
        simp at h1)
    clear HDQ
    (try simp only [Bool.not_true, Bool.not_false] at e1 e7)
    (try simp only [Bool.not_true, Bool.not_false] at e7)
    go_wp2_with fail
    go_ret
    exact ⟨ret_bool HF.out.symm, HB.out⟩
  cases b9
  case true =>
    have HF : Hid (bv = false) := Lib.hid (by
      cases hbq : bv
      · rfl
      · have h1 := (HBV.out.1 hbq).1
        rw [HDQ.out] at h1
        simp at h1)
    clear HDQ
    (try simp only [Bool.not_true, Bool.not_false] at e1 e7)
    (try simp only [Bool.not_true, Bool.not_false] at e7)
    go_wp2_with fail
    go_ret
    exact ⟨ret_bool HF.out.symm, HB.out⟩
  cases b10
  case true =>
    have HF : Hid (bv = false) := Lib.hid (by
      cases hbq : bv
      · rfl
      · have h1 := (HBV.out.1 hbq).1
        rw [HDQ.out] at h1
        simp at h1)
    clear HDQ
    (try simp only [Bool.not_true, Bool.not_false] at e1 e7)
    (try simp only [Bool.not_true, Bool.not_false] at e7)
    go_wp2_with fail
    go_ret
    exact ⟨ret_bool HF.out.symm, HB.out⟩
  have HHD : Hid (hdR a b = true) := Lib.hid (by rw [HDQ.out]; rfl)
  clear HDQ
  simp only [Bool.not_false] at e1 e7
  by_cases hln : n1 = m1 ∧ n2 = m2
  · obtain ⟨rfl, rfl⟩ := hln
    have hga := fun j => cell_of_row W w.heap.size j _ _ _ HRA.out
    have hgb := fun j => cell_of_row W (w.heap.size + 1) j _ _ _ HRB.out
    go_wp2_with fail
    clear hga hgb
    go_loopw [5] (fun i wr => ∃ k : Nat, k ≤ n1 ∧ i = .int .i64 k ∧ Below W.heap.size W wr ∧ a.cs.take k = b.cs.take k) (fun i _ => n1 - (intOf i).toNat)
    case atStart => exact ⟨0, Nat.zero_le _, rfl, Below.refl _ _, rfl⟩
    case round =>
      obtain ⟨k, hk, rfl, hbw, heq⟩ := hrel
      have HBW := Lib.hid hbw; have HEQ := Lib.hid heq
      have HRAr := Lib.hid ((hbw.block _ (block_lt HRA.out)).trans HRA.out)
      have HRBr := Lib.hid ((hbw.block _ (block_lt HRB.out)).trans HRB.out)
      have hga := fun j => cell_of_row wr w.heap.size j _ _ _ HRAr.out
      have hgb := fun j => cell_of_row wr (w.heap.size + 1) j _ _ _ HRBr.out
      clear heq hbw
      by_cases hlt : k < n1
      · obtain ⟨x, hx⟩ : ∃ x, a.cs[k]? = some x := ⟨_, List.getElem?_eq_getElem (by have := HNA1.out; omega)⟩
        obtain ⟨y, hy⟩ : ∃ y, b.cs[k]? = some y := ⟨_, List.getElem?_eq_getElem (by have := HNB1.out; omega)⟩
        have HX := Lib.hid hx; have HY := Lib.hid hy
        obtain ⟨bb, o, hp, hb1, hr⟩ := (HAC.out.below (HB.out.trans (HBW.out.mono HB.out.size))).at hx
        obtain ⟨bb2, o2, hp2, hb2, hr2⟩ := (HBC.out.below (HB.out.trans (HBW.out.mono HB.out.size))).at hy
        subst hp; subst hp2
        obtain ⟨f1, f2⟩ := loL_of hr (Cpn.cells_length x)
        obtain ⟨f3, f4⟩ := loL_of hr2 (Cpn.cells_length y)
        obtain ⟨q, hq⟩ : ∃ q, Cpn.eqB x y = q := ⟨_, rfl⟩
        have hE : ∀ W, (Op.equalIn 10000 33 (.agg x.cells.toArray) (.agg y.cells.toArray)).run Tryz.prog W = .ok q W := fun W => by rw [← hq]; exact eqInCp x y W
        have HQ := Lib.hid (hq ▸ Cpn.eqB_iff x y : (q = true ↔ x = y))
        have hG := guardneqCp
        have hG2 := guardeqlCp
        generalize x.cells = cx at *
        generalize y.cells = cy at *
        clear hx hy hr hr2 hq
        cases q
        · have HF : Hid (bv = false) := Lib.hid (by
            cases hbq : bv
            · rfl
            · have h1 := (HBV.out.1 hbq).2.1
              have h2 := HX.out
              rw [h1, HY.out] at h2
              injection h2 with h2
              exact absurd (HQ.out.2 h2.symm) (by simp))
          go_wp2_with fail
          go_region
          go_wp2
          go_ret
          exact ⟨ret_bool HF.out.symm, (HB.out.trans (HBW.out.mono HB.out.size)).drew⟩
        · go_wp2_with fail
          go_region
          go_wp2
          go_roundw
          case rel => exact ⟨k + 1, by omega, by go_num, HBW.out.drew, by rw [List.take_add_one, List.take_add_one, HX.out, HY.out, HEQ.out, HQ.out.1 (by trivial)]⟩
          case measure => simp [intOf]; omega
      · have hk2 : k = n1 := by omega
        clear hlt
        subst hk2
        have HE1 : Hid (a.cs = b.cs) := Lib.hid (by have := HEQ.out; rwa [List.take_of_length_le (by have := HNA1.out; omega), List.take_of_length_le (by have := HNB1.out; omega)] at this)
        have HB := Lib.hid (HB.out.trans (HBW.out.mono HB.out.size)); have HRA := HRAr; have HRB := HRBr
        clear hga hgb HBW HRAr HRBr HEQ
        generalize hWW : wr = W at *
        clear hWW
        have hga := fun j => cell_of_row W w.heap.size j _ _ _ HRA.out
        have hgb := fun j => cell_of_row W (w.heap.size + 1) j _ _ _ HRB.out
        go_wp2_with fail
        clear hga hgb
        go_loopw [6] (fun i wr => ∃ k : Nat, k ≤ n2 ∧ i = .int .i64 k ∧ Below W.heap.size W wr ∧ a.xs.take k = b.xs.take k) (fun i _ => n2 - (intOf i).toNat)
        case atStart => exact ⟨0, Nat.zero_le _, rfl, Below.refl _ _, rfl⟩
        case round =>
          obtain ⟨k, hk, rfl, hbw, heq⟩ := hrel
          have HBW := Lib.hid hbw; have HEQ := Lib.hid heq
          have HRAr := Lib.hid ((hbw.block _ (block_lt HRA.out)).trans HRA.out)
          have HRBr := Lib.hid ((hbw.block _ (block_lt HRB.out)).trans HRB.out)
          have hga := fun j => cell_of_row wr w.heap.size j _ _ _ HRAr.out
          have hgb := fun j => cell_of_row wr (w.heap.size + 1) j _ _ _ HRBr.out
          clear heq hbw
          by_cases hlt : k < n2
          · obtain ⟨x, hx⟩ : ∃ x, a.xs[k]? = some x := ⟨_, List.getElem?_eq_getElem (by have := HNA2.out; omega)⟩
            obtain ⟨y, hy⟩ : ∃ y, b.xs[k]? = some y := ⟨_, List.getElem?_eq_getElem (by have := HNB2.out; omega)⟩
            have HX := Lib.hid hx; have HY := Lib.hid hy
            obtain ⟨bb, o, hp, hb1, hr⟩ := (HAX.out.below (HB.out.trans (HBW.out.mono HB.out.size))).at hx
            obtain ⟨bb2, o2, hp2, hb2, hr2⟩ := (HBX.out.below (HB.out.trans (HBW.out.mono HB.out.size))).at hy
            subst hp; subst hp2
            obtain ⟨f1, f2⟩ := loL_of hr (Txx.cells_length x)
            obtain ⟨f3, f4⟩ := loL_of hr2 (Txx.cells_length y)
            obtain ⟨q, hq⟩ : ∃ q, Txx.eqB x y = q := ⟨_, rfl⟩
            have hE : ∀ W, (Op.equalIn 10000 127 (.agg x.cells.toArray) (.agg y.cells.toArray)).run Tryz.prog W = .ok q W := fun W => by rw [← hq]; exact eqInTx x y W
            have HQ := Lib.hid (hq ▸ Txx.eqB_iff x y : (q = true ↔ x = y))
            have hG := guardneqTx
            have hG2 := guardeqlTx
            generalize x.cells = cx at *
            generalize y.cells = cy at *
            clear hx hy hr hr2 hq
            cases q
            · have HF : Hid (bv = false) := Lib.hid (by
                cases hbq : bv
                · rfl
                · have h1 := (HBV.out.1 hbq).2.2
                  have h2 := HX.out
                  rw [h1, HY.out] at h2
                  injection h2 with h2
                  exact absurd (HQ.out.2 h2.symm) (by simp))
              go_wp2_with fail
              go_region
              go_wp2
              go_ret
              exact ⟨ret_bool HF.out.symm, (HB.out.trans (HBW.out.mono HB.out.size)).drew⟩
            · go_wp2_with fail
              go_region
              go_wp2
              go_roundw
              case rel => exact ⟨k + 1, by omega, by go_num, HBW.out.drew, by rw [List.take_add_one, List.take_add_one, HX.out, HY.out, HEQ.out, HQ.out.1 (by trivial)]⟩
              case measure => simp [intOf]; omega
          · have hk2 : k = n2 := by omega
            clear hlt
            subst hk2
            have HE2 : Hid (a.xs = b.xs) := Lib.hid (by have := HEQ.out; rwa [List.take_of_length_le (by have := HNA2.out; omega), List.take_of_length_le (by have := HNB2.out; omega)] at this)
            have HF : Hid (bv = true) := Lib.hid (HBV.out.2 ⟨HHD.out, HE1.out, HE2.out⟩)
            go_wp2
            go_ret
            exact ⟨ret_bool HF.out.symm, HB.out.trans (HBW.out.mono HB.out.size)⟩
  · have HF : Hid (bv = false) := Lib.hid (by
      cases hbq : bv
      · rfl
      · obtain ⟨-, h1, h2⟩ := HBV.out.1 hbq
        refine absurd ?_ hln
        have e1 : n1 = a.cs.length := HNA1.out; have e2 : n2 = a.xs.length := HNA2.out; have e4 : m1 = b.cs.length := HNB1.out; have e5 : m2 = b.xs.length := HNB2.out
        rw [h1] at e1
        rw [h2] at e2
        omega)
    have hl2 : ¬ (n1 : Int) = (m1 : Int) ∨ ((n1 : Int) = m1 ∧ ¬ (n2 : Int) = (m2 : Int)) := by omega
    clear hln
    rcases hl2 with h1 | ⟨h1, h2⟩
    all_goals
      go_wp2
      go_ret
      exact ⟨ret_bool HF.out.symm, HB.out⟩
end
end Go.Proofs.YtbmphlpmipkpcaaGreat
end

section
set_option linter.unusedVariables false
set_option linter.unusedSimpArgs false
namespace Go.Proofs.YtbmphlpmipkpcaaGreat
open Go.RowKit Go.Deep

namespace Rq
def setX (x o : Rqt) (c : UInt8) : Rqt := if c = 75 then { o with key := x.key } else if c = 68 then { o with d := x.d } else if c = 76 then { o with loc := x.loc } else if c = 84 then { o with tk := x.tk } else if c = 78 then { o with c := x.c } else if c = 83 then { o with st := x.st } else if c = 65 then { o with am := x.am } else if c = 74 then { o with cs := x.cs } else if c = 67 then { o with cs := x.cs } else if c = 88 then { o with xs := x.xs } else if c = 82 then { o with fr := x.fr, tt := x.tt } else o
/-- a request with just what a kind names -/
def onlyX (x : Rqt) (k : Int) : Rqt := (rowL k).foldl (setX x) (zeroK x.k)
/-- may a request be, by the reference? -/
def rmayRq (x : Rqt) : Bool := !(rowL x.k).isEmpty && ((rowL x.k).all (fun c => partB (fnOf (c.toNat : Int)) x) && eqRq x (onlyX x x.k))
end Rq
theorem only_form (x : Rqt) (k : Int) (p q : Option Addr) (n cap m cap2 : Nat) (W : World) (hc : LS Cpn.cells 6 W (.slice p n cap) x.cs) (ht : LS Txx.cells 2 W (.slice q m cap2) x.xs) : ∃ (p' q' : Option Addr) (n' cap' m' cap2' : Nat), Rq.onlyA x p q n cap m cap2 (Rq.rowL k) = #[.string (Rq.onlyX x k).key, .int .i64 (Rq.onlyX x k).k, .int .i64 (Rq.onlyX x k).d, .int .u64 (Rq.onlyX x k).tk, .int .i64 (Rq.onlyX x k).c, .int .i64 (Rq.onlyX x k).st, .string (Rq.onlyX x k).loc, .slice p' n' cap', .slice q' m' cap2', .int .i64 (Rq.onlyX x k).am, .int .i64 (Rq.onlyX x k).fr, .int .i64 (Rq.onlyX x k).tt] ∧ (∀ W', Below W.heap.size W W' → LS Cpn.cells 6 W' (.slice p' n' cap') (Rq.onlyX x k).cs) ∧ (∀ W', Below W.heap.size W W' → LS Txx.cells 2 W' (.slice q' m' cap2') (Rq.onlyX x k).xs) := by
  have nc : ∀ W', LS Cpn.cells 6 W' (.slice none 0 0) [] := fun W' => LS.of_own (base := 0) (e := 0) (own_nilQ W' 0 0 6) Cpn.cells_length (by decide)
  have nx : ∀ W', LS Txx.cells 2 W' (.slice none 0 0) [] := fun W' => LS.of_own (base := 0) (e := 0) (own_nilQ W' 0 0 2) Txx.cells_length (by decide)
  rcases Rq.kind_cases k with rfl | rfl | rfl | rfl | rfl | rfl | rfl | rfl | rfl | rfl | hk
  · exact ⟨p, q, n, cap, m, cap2, rfl, fun W' hb => hc.below hb, fun W' hb => ht.below hb⟩
  · exact ⟨none, none, 0, 0, 0, 0, rfl, fun W' hb => nc W', fun W' hb => nx W'⟩
  · exact ⟨none, none, 0, 0, 0, 0, rfl, fun W' hb => nc W', fun W' hb => nx W'⟩
  · exact ⟨none, none, 0, 0, 0, 0, rfl, fun W' hb => nc W', fun W' hb => nx W'⟩
  · exact ⟨p, q, n, cap, m, cap2, rfl, fun W' hb => hc.below hb, fun W' hb => ht.below hb⟩
  · exact ⟨none, none, 0, 0, 0, 0, rfl, fun W' hb => nc W', fun W' hb => nx W'⟩
  · exact ⟨none, none, 0, 0, 0, 0, rfl, fun W' hb => nc W', fun W' hb => nx W'⟩
  · exact ⟨none, none, 0, 0, 0, 0, rfl, fun W' hb => nc W', fun W' hb => nx W'⟩
  · exact ⟨none, none, 0, 0, 0, 0, rfl, fun W' hb => nc W', fun W' hb => nx W'⟩
  · exact ⟨none, none, 0, 0, 0, 0, rfl, fun W' hb => nc W', fun W' hb => nx W'⟩
  · have h1 : Rq.onlyX x k = Rq.zeroK x.k := by unfold Rq.onlyX; rw [Rq.rowL_out hk]; rfl
    rw [h1, Rq.rowL_out hk]
    exact ⟨none, none, 0, 0, 0, 0, rfl, fun W' hb => nc W', fun W' hb => nx W'⟩
theorem rpart_all (x : Rqt) (hw : x.wf) (p q : Option Addr) (n cap m cap2 : Nat) (c : UInt8) (hcm : c ∈ Rq.rowL x.k) (w : World) (hc : LS Cpn.cells 6 w (.slice p n cap) x.cs) (ht : LS Txx.cells 2 w (.slice q m cap2) x.xs) :
    Calls Tryz.prog 70 #[.agg #[.string x.key, .int .i64 x.k, .int .i64 x.d, .int .u64 x.tk, .int .i64 x.c, .int .i64 x.st, .string x.loc, .slice p n cap, .slice q m cap2, .int .i64 x.am, .int .i64 x.fr, .int .i64 x.tt], .int .u8 (c.toNat : Int)] w fun e w' => e = .returned (.bool (Rq.partB (Rq.fnOf (c.toNat : Int)) x)) ∧ Below w.heap.size w w' := by
  rcases Rq.row_mem hcm with rfl | rfl | rfl | rfl | rfl | rfl | rfl | rfl | rfl | rfl | rfl
  · exact rpart_key x hw p q n cap m cap2 w hc ht
  · exact rpart_on x hw p q n cap m cap2 w hc ht
  · exact rpart_locator x hw p q n cap m cap2 w hc ht
  · exact rpart_of x hw p q n cap m cap2 w hc ht
  · exact rpart_coupon x hw p q n cap m cap2 w hc ht
  · exact rpart_status x hw p q n cap m cap2 w hc ht
  · exact rpart_amount x hw p q n cap m cap2 w hc ht
  · exact rpart_journey x hw p q n cap m cap2 w hc ht
  · exact rpart_anew x hw p q n cap m cap2 w hc ht
  · exact rpart_taxes x hw p q n cap m cap2 w hc ht
  · exact rpart_days x hw p q n cap m cap2 w hc ht
attribute [local go_sem ↓] Rq_execLoad Rq_execStore

attribute [local go_sem] Rq_load Rq_store loL_drew okL_drew there_sc World.there_drew

set_option maxRecDepth 8000 in
set_option maxHeartbeats 4000000 in
theorem rMay16_any (x : Rqt) (hw : x.wf) (p q : Option Addr) (n cap m cap2 : Nat) (w : World) (hc : LS Cpn.cells 6 w (.slice p n cap) x.cs) (ht : LS Txx.cells 2 w (.slice q m cap2) x.xs) : Calls Tryz.prog 20 #[.agg #[.string x.key, .int .i64 x.k, .int .i64 x.d, .int .u64 x.tk, .int .i64 x.c, .int .i64 x.st, .string x.loc, .slice p n cap, .slice q m cap2, .int .i64 x.am, .int .i64 x.fr, .int .i64 x.tt]] w fun e w' => e = .returned (.bool (Rq.rmayRq x)) ∧ Below w.heap.size w w' := by
  have HROW := Lib.hid (fun W => rRow_any x.k W)
  have HLC := Lib.hid hc
  have HLT := Lib.hid ht
  obtain ⟨p1, q1, n1, c1, m1, d1, hoA, hoc, hox⟩ := only_form x x.k p q n cap m cap2 w hc ht
  have HON := Lib.hid (fun W => hoA ▸ rOnly_any x p q n cap m cap2 W)
  have HOC := Lib.hid hoc; have HOX := Lib.hid hox
  have HWF := Lib.hid hw
  clear hoA hoc hox hc ht hw
  have HX := Lib.hid (new_rowW w (.cells #[.string x.key, .int .i64 x.k, .int .i64 x.d, .int .u64 x.tk, .int .i64 x.c, .int .i64 x.st, .string x.loc, .slice p n cap, .slice q m cap2, .int .i64 x.am, .int .i64 x.fr, .int .i64 x.tt] 57 (0, 0)) _ rfl)
  have HB := Lib.hid ((Below.refl w.heap.size w).alloc (Nat.le_refl _) (.cells #[.string x.key, .int .i64 x.k, .int .i64 x.d, .int .u64 x.tk, .int .i64 x.c, .int .i64 x.st, .string x.loc, .slice p n cap, .slice q m cap2, .int .i64 x.am, .int .i64 x.fr, .int .i64 x.tt] 57 (0, 0)))
  go_enter Tryz.func20, Tryz.ntmps20
  have kc := cell_of_row _ w.heap.size 1 _ _ _ HX.out
  go_wp2_with fail
  clear kc
  refine (HROW.out _).mono ?_
  rintro e w4 ⟨rfl, hb⟩
  replace HX := Lib.hid ((hb.block _ (block_lt HX.out)).trans HX.out)
  replace HB := Lib.hid (HB.out.trans (hb.mono HB.out.size))
  clear hb HROW
  obtain ⟨S, hS⟩ : ∃ S : ByteArray, ⟨(Rq.rowL x.k).toArray⟩ = S := ⟨_, rfl⟩
  rw [hS]
  have HSL : Hid (S.data.toList = Rq.rowL x.k) := Lib.hid (by rw [← hS])
  have hsz : S.size ≤ 6 := by rw [← hS]; exact row_len x.k
  clear hS
  go_wp2_with fail
  go_loopw [4] (fun i wr => ∃ j : Nat, j ≤ S.size ∧ i = .int .i64 j ∧ wr.heap[w.heap.size]? = some (.cells #[.string x.key, .int .i64 x.k, .int .i64 x.d, .int .u64 x.tk, .int .i64 x.c, .int .i64 x.st, .string x.loc, .slice p n cap, .slice q m cap2, .int .i64 x.am, .int .i64 x.fr, .int .i64 x.tt] 57 (0, 0)) ∧ S.data.toList.all (fun c : UInt8 => Rq.partB (Rq.fnOf (c.toNat : Int)) x) = (S.data.toList.drop j).all (fun c : UInt8 => Rq.partB (Rq.fnOf (c.toNat : Int)) x) ∧ Below w.heap.size w wr) (fun i _ => S.size - (intOf i).toNat)
  case atStart => exact ⟨0, Nat.zero_le _, rfl, HX.out, rfl, HB.out⟩
  case round =>
    obtain ⟨j, hj, rfl, hx, hg, hb⟩ := hrel
    clear HX HB
    have HX := Lib.hid hx; have HG := Lib.hid hg; have HB := Lib.hid hb
    clear hx hg hb
    by_cases hlt : j < S.size
    · have HD := Lib.hid (drop_step S j hlt)
      have HPT := Lib.hid (fun (u : Later wr) => rpart_all x HWF.out p q n cap m cap2 S[j] (by rw [← HSL.out]; exact List.getElem_mem (l := S.data.toList) (by simpa using hlt)) u.val (HLC.out.below (HB.out.trans (u.prop.mono HB.out.size))) (HLT.out.below (HB.out.trans (u.prop.mono HB.out.size))))
      obtain ⟨q5, hq5⟩ : ∃ z, Rq.partB (Rq.fnOf ((S[j]).toNat : Int)) x = z := ⟨_, rfl⟩
      rw [hq5] at HPT
      have HQ5 := Lib.hid hq5
      clear hq5
      go_upto_region 5 with fail
      have f1 := fun (u : Later wr) => (row_loT 12 (g := w.heap.size) ((u.prop.block _ (block_lt HX.out)).trans HX.out) rfl rfl).1
      have f2 := fun (u : Later wr) => (row_loT 12 (g := w.heap.size) ((u.prop.block _ (block_lt HX.out)).trans HX.out) rfl rfl).2
      refine wp_region_later (by kernel_rfl) (by kernel_rfl) ?_
      repeat (go_big_quiet_step ((go_at_call 70; exact later_call (HPT.out _))))
      refine wpQuiet_nil ?_
      rintro wz ⟨u, rfl⟩
      clear f1 f2
      replace HX := Lib.hid ((u.prop.block _ (block_lt HX.out)).trans HX.out)
      replace HB := Lib.hid (HB.out.trans (u.prop.mono HB.out.size))
      generalize u.val = w6 at *
      cases q5
      · have HF : Hid (Rq.rmayRq x = false) := Lib.hid (by unfold Rq.rmayRq; rw [← HSL.out, HG.out, HD.out, List.all_cons, HQ5.out]; simp)
        go_wp2
        go_ret
        exact ⟨ret_bool HF.out.symm, HB.out⟩
      · go_wp2
        go_roundw
        case rel => exact ⟨j + 1, by omega, by go_num, HX.out, by rw [HG.out, HD.out, List.all_cons, HQ5.out]; rfl, HB.out⟩
        case measure => simp [intOf]; omega
    · obtain rfl : j = S.size := by omega
      have HA : Hid (S.data.toList.all (fun c : UInt8 => Rq.partB (Rq.fnOf (c.toNat : Int)) x) = true) := Lib.hid (by rw [HG.out, List.drop_of_length_le (by simp)]; rfl)
      obtain ⟨q7, hq7⟩ : ∃ z, eqRq x (Rq.onlyX x x.k) = z := ⟨_, rfl⟩
      have HSM := Lib.hid (fun (u : Later wr) => rSame16_any x (Rq.onlyX x x.k) p q p1 q1 n cap m cap2 n1 c1 m1 d1 u.val (HLC.out.below (HB.out.trans (u.prop.mono HB.out.size))) (HLT.out.below (HB.out.trans (u.prop.mono HB.out.size))) (HOC.out _ (HB.out.trans (u.prop.mono HB.out.size))) (HOX.out _ (HB.out.trans (u.prop.mono HB.out.size))) q7 (by rw [← hq7]; exact eqRq_iff x _))
      have HRV : Hid (Rq.rmayRq x = (!S.data.toList.isEmpty && q7)) := Lib.hid (by unfold Rq.rmayRq; rw [← HSL.out, HA.out, hq7, Bool.true_and])
      clear hq7
      obtain ⟨ne, hne⟩ : ∃ z, S.data.toList.isEmpty = z := ⟨_, rfl⟩
      rw [hne] at HRV
      have hs2 : S.toList.isEmpty = ne := by rw [ByteArray.toList_eq, hne]
      have hs1 : (S.toList = []) = (ne = true) := by rw [← hs2, List.isEmpty_iff]
      clear hne
      cases ne
      all_goals
        go_upto_region 7 with fail
        have f1 := fun (u : Later wr) => (row_loT 12 (g := w.heap.size) ((u.prop.block _ (block_lt HX.out)).trans HX.out) rfl rfl).1
        have f2 := fun (u : Later wr) => (row_loT 12 (g := w.heap.size) ((u.prop.block _ (block_lt HX.out)).trans HX.out) rfl rfl).2
        refine wp_region_later (by kernel_rfl) (by kernel_rfl) ?_
        repeat (go_big_quiet_step (first | (go_at_call 24; exact later_call (HON.out _)) | (go_at_call 23; exact later_call (HSM.out _))))
        refine wpQuiet_nil ?_
        rintro wz ⟨u, rfl⟩
        go_wp2
        go_ret
        exact ⟨by rw [HRV.out]; first | rfl | (cases q7 <;> rfl), HB.out.trans (u.prop.mono HB.out.size)⟩
end Go.Proofs.YtbmphlpmipkpcaaGreat
end
