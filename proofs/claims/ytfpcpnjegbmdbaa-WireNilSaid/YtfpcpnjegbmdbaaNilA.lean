/- Contracts of package wire's methods at a writer or a reader that is not there, and at a zero reader. -/
import Derived.Test.YtfpcpnjegbmdbaaReadC
set_option linter.unusedVariables false
set_option linter.unusedSimpArgs false
namespace Go.Proofs.Ytfpcpnjegbmdbaa
open Go.RowKit

set_option maxHeartbeats 400000 in
theorem wbytes_nil (p : Option Addr) (n c : Nat) (w : World) :
    Calls Try.prog 19 #[.pointer none, .slice p n c] w fun e w' => e = .returned (.pointer none) ∧ w = w' := by
  go_enter Try.func19, Try.ntmps19
  go_wp2
  go_ret
  exact ⟨rfl, rfl⟩

set_option maxRecDepth 4000 in
set_option maxHeartbeats 1000000 in
theorem wnumber_nil (N : Nat) (hN : N < 18446744073709551616) (s : Nat) (hs : s = 1 ∨ s = 2 ∨ s = 4 ∨ s = 8) (hfit : N < 256 ^ s) (w : World) :
    Calls Try.prog 21 #[.pointer none, .int .u64 (N : Int), .int .i64 (s : Int)] w fun e w' => e = .returned (.pointer none) ∧ Below w.heap.size w w' := by
  have HBN := Lib.hid (fun p n c W => wbytes_nil p n c W)
  have HFT := Lib.hid hfit
  clear hfit
  go_enter Try.func21, Try.ntmps21
  go_wp2
  go_loopw [10] (fun i wr => ∃ j : Nat, j ≤ 8 ∧ i = .int .i64 j ∧ wr = w.alloc (.cells (rowB (rowE N j)) 89)) (fun i _ => 8 - (intOf i).toNat)
  case atStart => exact ⟨0, by omega, rfl, rfl⟩
  case round =>
    obtain ⟨j, hj, rfl, rfl⟩ := hrel
    by_cases hj8 : j < 8
    · have hck := rowB_at (l := rowE N j) (j := 7 - j) (by rw [rowE_length N j hj]; omega)
      go_wp2
      go_roundw
      case rel => exact ⟨j + 1, by omega, by go_num, by rw [byte_at, rowB_set, rowE_set N j hj8]⟩
      case measure => simp [intOf]; omega
    · obtain rfl : j = 8 := by omega
      have hrow : rowE N 8 = Wire.be N 8 := by unfold rowE; simp
      rw [hrow]
      have hH : (w.alloc (.cells (rowB (Wire.be N 8)) 89)).heap[w.heap.size]? = some (.cells (rowB (Wire.be N 8)) 89 (0, 0)) := new_rowW _ _ _ rfl
      have HH := Lib.hid hH
      clear hH hrow
      have hN8 : Hid (N < 256 ^ 8) := Lib.hid (by simpa using hN)
      rcases hs with rfl | rfl | rfl | rfl
      · have HD := Lib.hid (Wire.ahead_zero (n := N) (s := 7) (t := 1) hN8.out)
        have hq : decide (N < 256 ^ 1) = true := by simpa using HFT.out
        rw [hq] at HD
        have hmk : ∀ W : World, (Instr.makeSlice 29 (.int .i64 7) (.int .i64 7)).run Try.prog W = .ok (.slice (some ⟨W.heap.size, 0, none⟩) 7 7) (W.alloc (.cells (rowB (List.replicate 7 0)) 5)) := fun _ => by kernel_rfl
        clear hq
        go_wp2_with fail
        refine (equal_any _ _ ((Wire.be N (7 + 1)).take 7) (List.replicate 7 0) _ ((row_bs (cap := 8) HH.out (by omega) (by decide)).alloc _) (zeros_bs (new_rowW _ _ (w.heap.size + 1) (by simp)) (by decide))).mono ?_
        rintro e w1 ⟨rfl, rfl⟩
        rw [HD.out]
        have HB := Lib.hid (((Below.refl w.heap.size w).alloc (Nat.le_refl _) (.cells (rowB (Wire.be N 8)) 89)).alloc (by simp) (.cells (rowB (List.replicate 7 0)) 5))
        go_wp2_with fail
        refine (HBN.out _ _ _ _).mono ?_
        rintro e w1 ⟨rfl, rfl⟩
        go_wp2
        go_ret
        exact ⟨rfl, HB.out⟩
      · have HD := Lib.hid (Wire.ahead_zero (n := N) (s := 6) (t := 2) hN8.out)
        have hq : decide (N < 256 ^ 2) = true := by simpa using HFT.out
        rw [hq] at HD
        have hmk : ∀ W : World, (Instr.makeSlice 29 (.int .i64 6) (.int .i64 6)).run Try.prog W = .ok (.slice (some ⟨W.heap.size, 0, none⟩) 6 6) (W.alloc (.cells (rowB (List.replicate 6 0)) 5)) := fun _ => by kernel_rfl
        clear hq
        go_wp2_with fail
        refine (equal_any _ _ ((Wire.be N (6 + 2)).take 6) (List.replicate 6 0) _ ((row_bs (cap := 8) HH.out (by omega) (by decide)).alloc _) (zeros_bs (new_rowW _ _ (w.heap.size + 1) (by simp)) (by decide))).mono ?_
        rintro e w1 ⟨rfl, rfl⟩
        rw [HD.out]
        have HB := Lib.hid (((Below.refl w.heap.size w).alloc (Nat.le_refl _) (.cells (rowB (Wire.be N 8)) 89)).alloc (by simp) (.cells (rowB (List.replicate 6 0)) 5))
        go_wp2_with fail
        refine (HBN.out _ _ _ _).mono ?_
        rintro e w1 ⟨rfl, rfl⟩
        go_wp2
        go_ret
        exact ⟨rfl, HB.out⟩
      · have HD := Lib.hid (Wire.ahead_zero (n := N) (s := 4) (t := 4) hN8.out)
        have hq : decide (N < 256 ^ 4) = true := by simpa using HFT.out
        rw [hq] at HD
        have hmk : ∀ W : World, (Instr.makeSlice 29 (.int .i64 4) (.int .i64 4)).run Try.prog W = .ok (.slice (some ⟨W.heap.size, 0, none⟩) 4 4) (W.alloc (.cells (rowB (List.replicate 4 0)) 5)) := fun _ => by kernel_rfl
        clear hq
        go_wp2_with fail
        refine (equal_any _ _ ((Wire.be N (4 + 4)).take 4) (List.replicate 4 0) _ ((row_bs (cap := 8) HH.out (by omega) (by decide)).alloc _) (zeros_bs (new_rowW _ _ (w.heap.size + 1) (by simp)) (by decide))).mono ?_
        rintro e w1 ⟨rfl, rfl⟩
        rw [HD.out]
        have HB := Lib.hid (((Below.refl w.heap.size w).alloc (Nat.le_refl _) (.cells (rowB (Wire.be N 8)) 89)).alloc (by simp) (.cells (rowB (List.replicate 4 0)) 5))
        go_wp2_with fail
        refine (HBN.out _ _ _ _).mono ?_
        rintro e w1 ⟨rfl, rfl⟩
        go_wp2
        go_ret
        exact ⟨rfl, HB.out⟩
      · have HD := Lib.hid (Wire.ahead_zero (n := N) (s := 0) (t := 8) hN8.out)
        have hq : decide (N < 256 ^ 8) = true := by simpa using HFT.out
        rw [hq] at HD
        have hmk : ∀ W : World, (Instr.makeSlice 29 (.int .i64 0) (.int .i64 0)).run Try.prog W = .ok (.slice (some ⟨W.heap.size, 0, none⟩) 0 0) (W.alloc (.cells (rowB (List.replicate 0 0)) 5)) := fun _ => by kernel_rfl
        clear hq
        go_wp2_with fail
        refine (equal_any _ _ ((Wire.be N (0 + 8)).take 0) (List.replicate 0 0) _ ((row_bs (cap := 8) HH.out (by omega) (by decide)).alloc _) (zeros_bs (new_rowW _ _ (w.heap.size + 1) (by simp)) (by decide))).mono ?_
        rintro e w1 ⟨rfl, rfl⟩
        rw [HD.out]
        have HB := Lib.hid (((Below.refl w.heap.size w).alloc (Nat.le_refl _) (.cells (rowB (Wire.be N 8)) 89)).alloc (by simp) (.cells (rowB (List.replicate 0 0)) 5))
        go_wp2_with fail
        refine (HBN.out _ _ _ _).mono ?_
        rintro e w1 ⟨rfl, rfl⟩
        go_wp2
        go_ret
        exact ⟨rfl, HB.out⟩

set_option maxRecDepth 4000 in
set_option maxHeartbeats 1000000 in
theorem wint_nil (w : World) :
    Calls Try.prog 38 #[.pointer none, .int .i64 1] w fun e w' => e = .returned (.pointer none) ∧ Below w.heap.size w w' := by
  go_enter Try.func38, Try.ntmps38
  go_wp2_with fail
  refine (wnumber_nil 1 (by decide) 8 (by decide) (by decide) _).mono ?_
  rintro e w1 ⟨rfl, hb1⟩
  go_wp2
  go_ret
  exact ⟨rfl, hb1⟩

set_option maxRecDepth 4000 in
set_option maxHeartbeats 1000000 in
theorem wflag_nil (w : World) :
    Calls Try.prog 39 #[.pointer none, .bool true] w fun e w' => e = .returned (.pointer none) ∧ Below w.heap.size w w' := by
  go_enter Try.func39, Try.ntmps39
  go_wp2_with fail
  refine (wnumber_nil 1 (by decide) 1 (by decide) (by decide) _).mono ?_
  rintro e w1 ⟨rfl, hb1⟩
  go_wp2
  go_ret
  exact ⟨rfl, hb1⟩

set_option maxRecDepth 4000 in
set_option maxHeartbeats 1000000 in
theorem wcount_nil (w : World) :
    Calls Try.prog 37 #[.pointer none, .int .i64 1] w fun e w' => e = .returned (.pointer none) ∧ Below w.heap.size w w' := by
  go_enter Try.func37, Try.ntmps37
  go_wp2_with fail
  refine (wnumber_nil 1 (by decide) 2 (by decide) (by decide) _).mono ?_
  rintro e w1 ⟨rfl, hb1⟩
  go_wp2
  go_ret
  exact ⟨rfl, hb1⟩

set_option maxRecDepth 4000 in
set_option maxHeartbeats 1000000 in
theorem wblob_nil (p : Option Addr) (n c : Nat) (hn : n ≤ 16777216) (w : World) :
    Calls Try.prog 18 #[.pointer none, .slice p n c] w fun e w' => e = .returned (.pointer none) ∧ Below w.heap.size w w' := by
  have HNU := Lib.hid (fun W => wnumber_nil n (by omega) 4 (by decide) (by omega) W)
  go_enter Try.func18, Try.ntmps18
  go_wp2_with fail
  refine (HNU.out _).mono ?_
  rintro e w1 ⟨rfl, hb1⟩
  have HB := Lib.hid hb1; clear hb1
  go_wp2_with fail
  refine (wbytes_nil _ _ _ _).mono ?_
  rintro e w2 ⟨rfl, rfl⟩
  go_wp2
  go_ret
  exact ⟨rfl, HB.out⟩

set_option maxRecDepth 4000 in
set_option maxHeartbeats 1000000 in
theorem wtext_nil (S : ByteArray) (hS : S.size ≤ 1000) (w : World) :
    Calls Try.prog 40 #[.pointer none, .string S] w fun e w' => e = .returned (.pointer none) ∧ Below w.heap.size w w' := by
  obtain ⟨v, w1, hrun, hbs, hb1, q, c, rfl⟩ := conv_text w S (by simp only [maxLen]; omega) 0
  have HB1 := Lib.hid hb1
  clear hbs hb1
  go_enter Try.func40, Try.ntmps40
  go_wp2_with fail
  refine (wblob_nil _ _ _ (by omega) w1).mono ?_
  rintro e w2 ⟨rfl, hb2⟩
  have HB := Lib.hid (HB1.out.trans (hb2.mono HB1.out.size)); clear hb2
  go_wp2
  go_ret
  exact ⟨rfl, HB.out⟩

set_option maxRecDepth 4000 in
set_option maxHeartbeats 1000000 in
theorem wlen_nil (w : World) :
    Calls Try.prog 16 #[.pointer none] w fun e w' => e = .returned (.int .i64 0) ∧ w = w' := by
  go_enter Try.func16, Try.ntmps16
  go_wp2
  go_ret
  exact ⟨rfl, rfl⟩

set_option maxRecDepth 4000 in
set_option maxHeartbeats 1000000 in
theorem wend_nil (w : World) :
    Calls Try.prog 17 #[.pointer none] w fun e w' => e = .returned (.tuple #[.slice none 0 0, .int .i64 1]) ∧ w = w' := by
  go_enter Try.func17, Try.ntmps17
  go_wp2
  go_ret2
  exact ⟨rfl, rfl⟩

/-! ### a reader that is not there, or a zero one -/
def IsZ (w : World) (base : Nat) (p : Option Addr) : Prop :=
  p = none ∨ ∃ (br : Nat) (bad : Bool), p = some ⟨br, 0, none⟩ ∧ base ≤ br ∧ w.heap[br]? = some (.cells #[.slice none 0 0, .int .i64 0, .bool bad] 81 (0, 0))
def ZStep (w w' : World) (base : Nat) (p : Option Addr) : Prop := IsZ w' base p ∧ Below base w w' ∧ Kept RT w w' ∧ ∀ q, IsZ w base q → IsZ w' base q
theorem ZStep.trans {a b c : World} {base : Nat} {p : Option Addr} (h : ZStep a b base p) (k : ZStep b c base p) : ZStep a c base p := ⟨k.1, h.2.1.trans k.2.1, h.2.2.1.trans k.2.2.1, fun q hq => k.2.2.2 q (h.2.2.2 q hq)⟩

set_option maxRecDepth 4000 in
set_option maxHeartbeats 1000000 in
theorem zwell (base : Nat) (p : Option Addr) (w : World) (h : IsZ w base p) :
    Calls Try.prog 53 #[.pointer p] w fun e w' => e = .returned (.bool false) ∧ w = w' := by
  rcases h with rfl | ⟨br, bad, rfl, hb, hrow⟩
  · go_enter Try.func53, Try.ntmps53
    go_wp2
    go_ret
    exact ⟨rfl, rfl⟩
  · have hc := fun j => cell_of_row w br j _ _ _ hrow
    have hn := fun W => nil_ne W none 0 0 0 0
    clear hrow
    go_enter Try.func53, Try.ntmps53
    go_wp2
    go_ret
    exact ⟨rfl, rfl⟩

set_option maxRecDepth 4000 in
set_option maxHeartbeats 1000000 in
theorem zleft (base : Nat) (p : Option Addr) (w : World) (h : IsZ w base p) :
    Calls Try.prog 35 #[.pointer p] w fun e w' => e = .returned (.int .i64 0) ∧ w = w' := by
  have HW := Lib.hid (zwell base p w h)
  clear h
  go_enter Try.func35, Try.ntmps35
  go_wp2_with fail
  refine HW.out.mono ?_
  rintro e w1 ⟨rfl, rfl⟩
  go_wp2
  go_ret
  exact ⟨rfl, rfl⟩

set_option maxRecDepth 4000 in
set_option maxHeartbeats 1000000 in
theorem zfail (base : Nat) (p : Option Addr) (w : World) (h : IsZ w base p) :
    Calls Try.prog 36 #[.pointer p] w fun e w' => e = .returned (.tuple #[]) ∧ ZStep w w' base p := by
  have HI := Lib.hid h
  rcases h with rfl | ⟨br, bad, rfl, hb, hrow⟩
  · go_enter Try.func36, Try.ntmps36
    go_wp2
    go_end0
    exact ⟨rfl, HI.out, Below.refl _ _, Kept.refl _ _, fun _ h => h⟩
  · have HR := Lib.hid hrow
    have hc := fun j => cell_of_row w br j _ _ _ hrow
    have hf := fun j => frozen_of_row w br j _ _ hrow
    clear hrow
    go_enter Try.func36, Try.ntmps36
    go_wp2
    go_end0
    have key : ∀ cs t, w.heap[br]? = some (.cells cs t (0, 0)) → (w.setCell ⟨br, 2, none⟩ (.bool true)).heap[br]? = some (.cells (cs.setIfInBounds 2 (.bool true)) t (0, 0)) := fun cs t h => heap_setCell_same _ _ _ _ _ _ h
    refine ⟨rfl, .inr ⟨br, true, rfl, hb, key _ _ HR.out⟩, (Below.refl _ _).setCell hb _, (Kept.refl _ _).setCell HR.out (by simp [RT]) _, ?_⟩
    rintro q (rfl | ⟨br2, bad2, rfl, hb2, hrow2⟩)
    · exact .inl rfl
    · by_cases he : br2 = br
      · subst he
        exact .inr ⟨br2, true, rfl, hb2, key _ _ hrow2⟩
      · exact .inr ⟨br2, bad2, rfl, hb2, by rw [heap_setCell_other _ _ _ _ he]; exact hrow2⟩

set_option maxRecDepth 4000 in
set_option maxHeartbeats 1000000 in
theorem zbytes (base : Nat) (p : Option Addr) (n : Int) (w : World) (h : IsZ w base p) :
    Calls Try.prog 22 #[.pointer p, .int .i64 n] w fun e w' => e = .returned (.slice none 0 0) ∧ ZStep w w' base p := by
  have HW := Lib.hid (zwell base p w h)
  have HF := Lib.hid (zfail base p w h)
  clear h
  go_enter Try.func22, Try.ntmps22
  go_wp2_with fail
  refine HW.out.mono ?_
  rintro e w1 ⟨rfl, rfl⟩
  go_wp2_with fail
  refine HF.out.mono ?_
  rintro e w2 ⟨rfl, hz⟩
  go_wp2
  go_ret
  exact ⟨rfl, hz⟩

set_option maxRecDepth 4000 in
set_option maxHeartbeats 1000000 in
theorem znumber (base : Nat) (p : Option Addr) (k : Nat) (hk : k = 1 ∨ k = 2 ∨ k = 4 ∨ k = 8) (w : World) (h : IsZ w base p) :
    Calls Try.prog 43 #[.pointer p, .int .i64 (k : Int)] w fun e w' => e = .returned (.int .u64 0) ∧ ZStep w w' base p := by
  have HBY := Lib.hid (zbytes base p (k : Int) w h)
  clear h
  rcases hk with rfl | rfl | rfl | rfl
  all_goals
    go_enter Try.func43, Try.ntmps43
    go_wp2_with fail
    refine HBY.out.mono ?_
    rintro e w1 ⟨rfl, hz⟩
    have HZ := Lib.hid hz
    clear hz
    go_wp2_with fail
    go_loopw [4, 17] (fun a n wr => wr = w1 ∧ n = .int .i64 0 ∧ a = .int .u64 0) (fun _ n _ => 0)
    case atStart => exact ⟨rfl, rfl, rfl⟩
    case round =>
      obtain ⟨rfl, rfl, rfl⟩ := hrel
      go_wp2
      go_ret
      exact ⟨rfl, HZ.out⟩

set_option maxRecDepth 4000 in
set_option maxHeartbeats 1000000 in
theorem ztake (base : Nat) (p : Option Addr) (k : Nat) (hk : k = 1 ∨ k = 2 ∨ k = 4 ∨ k = 8) (w : World) (h : IsZ w base p) :
    Calls Try.prog 60 #[.func (.func 43) #[.pointer p] #[], .int .i64 (k : Int)] w fun e w' => e = .returned (.int .u64 0) ∧ ZStep w w' base p := by
  have HNU := Lib.hid (znumber base p k hk w h)
  go_enter Try.func60, Try.ntmps60
  go_wp2_with fail
  refine HNU.out.mono ?_
  rintro e w1 ⟨rfl, hz⟩
  go_wp2
  go_ret
  exact ⟨rfl, hz⟩

set_option maxRecDepth 4000 in
set_option maxHeartbeats 1000000 in
theorem zint (base : Nat) (p : Option Addr) (w : World) (h : IsZ w base p) :
    Calls Try.prog 42 #[.pointer p] w fun e w' => e = .returned (.int .i64 0) ∧ ZStep w w' base p := by
  have HC := Lib.hid (ztake base p 8 (by decide) w h)
  clear h
  go_enter Try.func42, Try.ntmps42
  go_wp2_with fail
  refine HC.out.mono ?_
  rintro e w1 ⟨rfl, hz⟩
  have HZ := Lib.hid hz
  clear hz
  go_wp2
  go_ret
  exact ⟨rfl, HZ.out⟩

set_option maxRecDepth 4000 in
set_option maxHeartbeats 1000000 in
theorem zflag (base : Nat) (p : Option Addr) (w : World) (h : IsZ w base p) :
    Calls Try.prog 44 #[.pointer p] w fun e w' => e = .returned (.bool false) ∧ ZStep w w' base p := by
  have HC := Lib.hid (znumber base p 1 (by decide) w h)
  clear h
  go_enter Try.func44, Try.ntmps44
  go_wp2_with fail
  refine HC.out.mono ?_
  rintro e w1 ⟨rfl, hz⟩
  have HZ := Lib.hid hz
  clear hz
  go_wp2
  go_ret
  exact ⟨rfl, HZ.out⟩

set_option maxRecDepth 4000 in
set_option maxHeartbeats 1000000 in
theorem zcount (base : Nat) (p : Option Addr) (w : World) (h : IsZ w base p) :
    Calls Try.prog 41 #[.pointer p] w fun e w' => e = .returned (.int .i64 0) ∧ ZStep w w' base p := by
  have HC := Lib.hid (znumber base p 2 (by decide) w h)
  clear h
  go_enter Try.func41, Try.ntmps41
  go_wp2_with fail
  refine HC.out.mono ?_
  rintro e w1 ⟨rfl, hz⟩
  have HZ := Lib.hid hz
  clear hz
  go_wp2
  go_ret
  exact ⟨rfl, HZ.out⟩

set_option maxRecDepth 4000 in
set_option maxHeartbeats 1000000 in
theorem zblob (base : Nat) (p : Option Addr) (w : World) (h : IsZ w base p) :
    Calls Try.prog 46 #[.pointer p] w fun e w' => e = .returned (.slice none 0 0) ∧ ZStep w w' base p := by
  have HC := Lib.hid (ztake base p 4 (by decide) w h)
  clear h
  go_enter Try.func46, Try.ntmps46
  go_wp2_with fail
  refine HC.out.mono ?_
  rintro e w1 ⟨rfl, hz⟩
  have HZ := Lib.hid hz
  clear hz
  go_wp2_with fail
  refine (zbytes base p _ w1 HZ.out.1).mono ?_
  rintro e w2 ⟨rfl, hz⟩
  have HZ := Lib.hid (HZ.out.trans hz)
  clear hz
  go_wp2
  go_ret
  exact ⟨rfl, HZ.out⟩

set_option maxRecDepth 4000 in
set_option maxHeartbeats 1000000 in
theorem ztext (base : Nat) (p : Option Addr) (w : World) (h : IsZ w base p) :
    Calls Try.prog 45 #[.pointer p] w fun e w' => e = .returned (.string ⟨#[]⟩) ∧ ZStep w w' base p := by
  have HC := Lib.hid (zblob base p w h)
  clear h
  go_enter Try.func45, Try.ntmps45
  go_wp2_with fail
  refine HC.out.mono ?_
  rintro e w1 ⟨rfl, hz⟩
  have HZ := Lib.hid hz
  clear hz
  have f1 := (BS.nil w1).to_string
  go_wp2
  go_ret
  exact ⟨rfl, HZ.out⟩

set_option maxRecDepth 4000 in
set_option maxHeartbeats 1000000 in
theorem zend (base : Nat) (p : Option Addr) (w : World) (h : IsZ w base p) :
    Calls Try.prog 23 #[.pointer p] w fun e w' => e = .returned (.int .i64 1) ∧ w = w' := by
  rcases h with rfl | ⟨br, bad, rfl, hb, hrow⟩
  · go_enter Try.func23, Try.ntmps23
    go_wp2
    go_ret
    exact ⟨rfl, rfl⟩
  · have hc := fun j => cell_of_row w br j _ _ _ hrow
    have hn := fun W => nil_eq W none 0 0 0 0
    clear hrow
    go_enter Try.func23, Try.ntmps23
    go_wp2
    go_ret
    exact ⟨rfl, rfl⟩
end Go.Proofs.Ytfpcpnjegbmdbaa
