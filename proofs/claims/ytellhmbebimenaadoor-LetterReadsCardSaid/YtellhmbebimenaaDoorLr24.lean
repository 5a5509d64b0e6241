/- Contracts: which letters may be (letter.May, couponref20.May). A mail's bytes, whatever its kind; a letter's bytes, as plain words. Plain words: the letter of bytes. -/
import Derived.Test.YtellhmbebimenaaDoorLr23
import Derived.Test.YtellhmbebimenaaDoorLr22

section
set_option linter.unusedVariables false
set_option linter.unusedSimpArgs false
namespace Go.Proofs.YtellhmbebimenaaDoor
open Go.RowKit

structure Lt where
  f : Int
  t : Int
  n : Int
  a : Int
  k : Int
  tk : Int
  c : Int
  d : Int
  co : Int
  fl : Int
  dy : Int
  va : Int
  st : Int
  ho : Int
  nx : Int
def Lt.cells (x : Lt) : List Value := [.int .i64 x.f, .int .i64 x.t, .int .u64 x.n, .int .u64 x.a, .int .i64 x.k, .int .u64 x.tk, .int .i64 x.c, .int .i64 x.d, .int .i64 x.co, .int .i64 x.fl, .int .i64 x.dy, .int .i64 x.va, .int .i64 x.st, .int .i64 x.ho, .int .u64 x.nx]
structure Lt.wf (x : Lt) : Prop where
  f : I64 x.f
  t : I64 x.t
  n : U64 x.n
  a : U64 x.a
  tk : U64 x.tk
  va : I64 x.va
/-- which letters may be -/
def Ltr.mayB (f t n a k tk c d co fl dy va st ho nx : Int) : Bool := Num.mayC f && Num.mayC t && !decide (f = t) && decide (n ≤ 4611686018427387904) && decide (a ≤ 4611686018427387904) && (if n = 0 then Ltr.eqM k tk c d co fl dy va st ho nx 0 0 0 0 0 0 0 0 0 0 0 else Ltr.mailB k tk c d co fl dy va st ho nx)
def Lt.may (x : Lt) : Bool := Ltr.mayB x.f x.t x.n x.a x.k x.tk x.c x.d x.co x.fl x.dy x.va x.st x.ho x.nx
/-- the j-th wrong -/
def Ltr.wr (f t n a k tk c d co fl dy va st ho nx : Int) : Nat → Bool
  | 0 => !(Num.mayC f && Num.mayC t)
  | 1 => decide (f = t)
  | 2 => !(decide (n ≤ 4611686018427387904) && decide (a ≤ 4611686018427387904))
  | 3 => (decide (n = 0) && !Ltr.eqM k tk c d co fl dy va st ho nx 0 0 0 0 0 0 0 0 0 0 0)
  | _ => (!decide (n = 0) && !Ltr.mailB k tk c d co fl dy va st ho nx)
theorem Ltr.may_wr (f t n a k tk c d co fl dy va st ho nx : Int) : Ltr.mayB f t n a k tk c d co fl dy va st ho nx = !(Ltr.wr f t n a k tk c d co fl dy va st ho nx 0 || Ltr.wr f t n a k tk c d co fl dy va st ho nx 1 || Ltr.wr f t n a k tk c d co fl dy va st ho nx 2 || Ltr.wr f t n a k tk c d co fl dy va st ho nx 3 || Ltr.wr f t n a k tk c d co fl dy va st ho nx 4) := by
  unfold Ltr.mayB Ltr.wr
  by_cases hn : n = 0
  · simp only [hn, if_true, decide_true, Bool.not_true, Bool.false_and, Bool.or_false, Bool.true_and]
    cases Num.mayC f <;> cases Num.mayC t <;> cases decide (f = t) <;> cases decide ((0 : Int) ≤ 4611686018427387904) <;> cases decide (a ≤ 4611686018427387904) <;> cases Ltr.eqM k tk c d co fl dy va st ho nx 0 0 0 0 0 0 0 0 0 0 0 <;> rfl
  · simp only [hn, if_false, decide_false, Bool.not_false, Bool.false_and, Bool.or_false, Bool.true_and]
    cases Num.mayC f <;> cases Num.mayC t <;> cases decide (f = t) <;> cases decide (n ≤ 4611686018427387904) <;> cases decide (a ≤ 4611686018427387904) <;> cases Ltr.mailB k tk c d co fl dy va st ho nx <;> rfl

set_option maxRecDepth 10000 in
set_option maxHeartbeats 4000000 in
theorem lmay_any (f t n a k tk c d co fl dy va st ho nx : Int) (ht : U64 tk) (hva : I64 va) (hn : U64 n) (ha : U64 a) (w : World) :
    Calls Tryd.prog 17 #[.agg #[.int .i64 f, .int .i64 t, .int .u64 n, .int .u64 a, .int .i64 k, .int .u64 tk, .int .i64 c, .int .i64 d, .int .i64 co, .int .i64 fl, .int .i64 dy, .int .i64 va, .int .i64 st, .int .i64 ho, .int .u64 nx]] w fun e w' => e = .returned (.bool (Ltr.mayB f t n a k tk c d co fl dy va st ho nx)) ∧ Below w.heap.size w w' := by
  have HFIN := Lib.hid (Ltr.may_wr f t n a k tk c d co fl dy va st ho nx)
  have HB := Lib.hid ((Below.refl w.heap.size w).alloc (Nat.le_refl _) (.cells #[.int .i64 f, .int .i64 t, .int .u64 n, .int .u64 a, .int .i64 k, .int .u64 tk, .int .i64 c, .int .i64 d, .int .i64 co, .int .i64 fl, .int .i64 dy, .int .i64 va, .int .i64 st, .int .i64 ho, .int .u64 nx] 31 (0, 0)))
  have HW := Lib.hid (wrongs_any f t n a k tk c d co fl dy va st ho nx (w.alloc (.cells #[.int .i64 f, .int .i64 t, .int .u64 n, .int .u64 a, .int .i64 k, .int .u64 tk, .int .i64 c, .int .i64 d, .int .i64 co, .int .i64 fl, .int .i64 dy, .int .i64 va, .int .i64 st, .int .i64 ho, .int .u64 nx] 31 (0, 0))))
  rw [show (w.alloc (.cells #[.int .i64 f, .int .i64 t, .int .u64 n, .int .u64 a, .int .i64 k, .int .u64 tk, .int .i64 c, .int .i64 d, .int .i64 co, .int .i64 fl, .int .i64 dy, .int .i64 va, .int .i64 st, .int .i64 ho, .int .u64 nx] 31 (0, 0))).heap.size = w.heap.size + 1 from by simp] at HW
  have H1 := Lib.hid (wrong1_any f t n a k tk c d co fl dy va st ho nx (w.heap.size + 1) ht hva hn ha)
  have H2 := Lib.hid (wrong2_any f t n a k tk c d co fl dy va st ho nx (w.heap.size + 1) ht hva hn ha)
  have H3 := Lib.hid (wrong3_any f t n a k tk c d co fl dy va st ho nx (w.heap.size + 1) ht hva hn ha)
  have H4 := Lib.hid (wrong4_any f t n a k tk c d co fl dy va st ho nx (w.heap.size + 1) ht hva hn ha)
  have H5 := Lib.hid (wrong5_any f t n a k tk c d co fl dy va st ho nx (w.heap.size + 1) ht hva hn ha)
  have e1 : (!(Num.mayC f && Num.mayC t)) = Ltr.wr f t n a k tk c d co fl dy va st ho nx 0 := rfl
  have e2 : (decide (f = t)) = Ltr.wr f t n a k tk c d co fl dy va st ho nx 1 := rfl
  have e3 : (!(decide (n ≤ 4611686018427387904) && decide (a ≤ 4611686018427387904))) = Ltr.wr f t n a k tk c d co fl dy va st ho nx 2 := rfl
  have e4 : ((decide (n = 0) && !Ltr.eqM k tk c d co fl dy va st ho nx 0 0 0 0 0 0 0 0 0 0 0)) = Ltr.wr f t n a k tk c d co fl dy va st ho nx 3 := rfl
  have e5 : ((!decide (n = 0) && !Ltr.mailB k tk c d co fl dy va st ho nx)) = Ltr.wr f t n a k tk c d co fl dy va st ho nx 4 := rfl
  rw [e1] at H1
  rw [e2] at H2
  rw [e3] at H3
  rw [e4] at H4
  rw [e5] at H5
  clear e1 e2 e3 e4 e5
  generalize Ltr.wr f t n a k tk c d co fl dy va st ho nx = Wr at *
  go_enter Tryd.func17, Tryd.ntmps17
  go_wp2_with fail
  refine HW.out.mono ?_
  rintro e w1 ⟨rfl, hr1, hf1, hb1⟩
  have HR := Lib.hid hr1; have HF := Lib.hid hf1
  have HB1 := Lib.hid (HB.out.trans (hb1.mono (Nat.le_succ _)))
  clear hr1 hf1 hb1 HW
  go_wp2_with fail
  go_loopw [8] (fun i wr => ∃ j : Nat, j ≤ 5 ∧ i = .int .i64 j ∧ Below w1.heap.size w1 wr ∧ ∀ q, q < j → Wr q = false) (fun i _ => 5 - (intOf i).toNat)
  case atStart => exact ⟨0, by omega, rfl, Below.refl _ _, fun q hq => absurd hq (by omega)⟩
  case round =>
    obtain ⟨j, hj, rfl, hbw, hno⟩ := hrel
    have HNO := Lib.hid hno
    have HBW := Lib.hid hbw
    have HRW := Lib.hid ((hbw.block _ (block_lt HR.out)).trans HR.out)
    have hfw := (hbw.block _ (block_lt HF.out)).trans HF.out
    have hcf := fun j => cell_of_row wr _ j _ _ _ hfw
    have HBB := Lib.hid (HB1.out.trans (hbw.mono HB1.out.size))
    clear hno hbw hfw
    rcases (by omega : j = 0 ∨ j = 1 ∨ j = 2 ∨ j = 3 ∨ j = 4 ∨ j = 5) with rfl | rfl | rfl | rfl | rfl | rfl
    · go_wp2_with (first | (go_at_call 102; refine (H1.out wr HRW.out).mono ?_; rintro e wn ⟨rfl, hbn⟩; have HBN := Lib.hid (HBW.out.trans (hbn.mono HBW.out.size)); have HBZ := Lib.hid (HBB.out.trans (hbn.mono HBB.out.size)); clear hbn; cases hwr : Wr 0; have HWR := Lib.hid hwr; clear hwr))
      all_goals
        first
          | (go_ret; exact ⟨ret_bool (by rw [HFIN.out]; simp [HNO.out 0, HNO.out 1, HNO.out 2, HNO.out 3, hwr]), HBZ.out⟩)
          | (go_roundw
             case rel => exact ⟨1, by omega, rfl, HBN.out, fun q hq => by rcases (by omega : q < 0 ∨ q = 0) with h | rfl; exact HNO.out q h; exact HWR.out⟩
             case measure => simp [intOf])
    · go_wp2_with (first | (go_at_call 104; refine (H2.out wr HRW.out).mono ?_; rintro e wn ⟨rfl, hbn⟩; have HBN := Lib.hid (HBW.out.trans (hbn.mono HBW.out.size)); have HBZ := Lib.hid (HBB.out.trans (hbn.mono HBB.out.size)); clear hbn; cases hwr : Wr 1; have HWR := Lib.hid hwr; clear hwr))
      all_goals
        first
          | (go_ret; exact ⟨ret_bool (by rw [HFIN.out]; simp [HNO.out 0, HNO.out 1, HNO.out 2, HNO.out 3, hwr]), HBZ.out⟩)
          | (go_roundw
             case rel => exact ⟨2, by omega, rfl, HBN.out, fun q hq => by rcases (by omega : q < 1 ∨ q = 1) with h | rfl; exact HNO.out q h; exact HWR.out⟩
             case measure => simp [intOf])
    · go_wp2_with (first | (go_at_call 105; refine (H3.out wr HRW.out).mono ?_; rintro e wn ⟨rfl, hbn⟩; have HBN := Lib.hid (HBW.out.trans (hbn.mono HBW.out.size)); have HBZ := Lib.hid (HBB.out.trans (hbn.mono HBB.out.size)); clear hbn; cases hwr : Wr 2; have HWR := Lib.hid hwr; clear hwr))
      all_goals
        first
          | (go_ret; exact ⟨ret_bool (by rw [HFIN.out]; simp [HNO.out 0, HNO.out 1, HNO.out 2, HNO.out 3, hwr]), HBZ.out⟩)
          | (go_roundw
             case rel => exact ⟨3, by omega, rfl, HBN.out, fun q hq => by rcases (by omega : q < 2 ∨ q = 2) with h | rfl; exact HNO.out q h; exact HWR.out⟩
             case measure => simp [intOf])
    · go_wp2_with (first | (go_at_call 106; refine (H4.out wr HRW.out).mono ?_; rintro e wn ⟨rfl, hbn⟩; have HBN := Lib.hid (HBW.out.trans (hbn.mono HBW.out.size)); have HBZ := Lib.hid (HBB.out.trans (hbn.mono HBB.out.size)); clear hbn; cases hwr : Wr 3; have HWR := Lib.hid hwr; clear hwr))
      all_goals
        first
          | (go_ret; exact ⟨ret_bool (by rw [HFIN.out]; simp [HNO.out 0, HNO.out 1, HNO.out 2, HNO.out 3, hwr]), HBZ.out⟩)
          | (go_roundw
             case rel => exact ⟨4, by omega, rfl, HBN.out, fun q hq => by rcases (by omega : q < 3 ∨ q = 3) with h | rfl; exact HNO.out q h; exact HWR.out⟩
             case measure => simp [intOf])
    · go_wp2_with (first | (go_at_call 107; refine (H5.out wr HRW.out).mono ?_; rintro e wn ⟨rfl, hbn⟩; have HBN := Lib.hid (HBW.out.trans (hbn.mono HBW.out.size)); have HBZ := Lib.hid (HBB.out.trans (hbn.mono HBB.out.size)); clear hbn; cases hwr : Wr 4; have HWR := Lib.hid hwr; clear hwr))
      all_goals
        first
          | (go_ret; exact ⟨ret_bool (by rw [HFIN.out]; simp [HNO.out 0, HNO.out 1, HNO.out 2, HNO.out 3, hwr]), HBZ.out⟩)
          | (go_roundw
             case rel => exact ⟨5, by omega, rfl, HBN.out, fun q hq => by rcases (by omega : q < 4 ∨ q = 4) with h | rfl; exact HNO.out q h; exact HWR.out⟩
             case measure => simp [intOf])
    · go_wp2
      go_ret
      exact ⟨ret_bool (by rw [HFIN.out]; simp [HNO.out 0, HNO.out 1, HNO.out 2, HNO.out 3, HNO.out 4]), HBB.out⟩

set_option maxRecDepth 10000 in
set_option maxHeartbeats 4000000 in
theorem rLmay_any (f t n a k tk c d co fl dy va st ho nx : Int) (ht : U64 tk) (hn : U64 n) (ha : U64 a) (w : World) :
    Calls Tryd.prog 10 #[.agg #[.int .i64 f, .int .i64 t, .int .u64 n, .int .u64 a, .int .i64 k, .int .u64 tk, .int .i64 c, .int .i64 d, .int .i64 co, .int .i64 fl, .int .i64 dy, .int .i64 va, .int .i64 st, .int .i64 ho, .int .u64 nx]] w fun e w' => e = .returned (.bool (Ltr.mayB f t n a k tk c d co fl dy va st ho nx)) ∧ Below w.heap.size w w' := by
  have HFIN : Hid (Ltr.mayB f t n a k tk c d co fl dy va st ho nx = _) := Lib.hid (by unfold Ltr.mayB; rfl)
  have HB := Lib.hid ((Below.refl w.heap.size w).alloc (Nat.le_refl _) (.cells #[.int .i64 f, .int .i64 t, .int .u64 n, .int .u64 a, .int .i64 k, .int .u64 tk, .int .i64 c, .int .i64 d, .int .i64 co, .int .i64 fl, .int .i64 dy, .int .i64 va, .int .i64 st, .int .i64 ho, .int .u64 nx] 31 (0, 0)))
  have HR := Lib.hid (new_rowW w (.cells #[.int .i64 f, .int .i64 t, .int .u64 n, .int .u64 a, .int .i64 k, .int .u64 tk, .int .i64 c, .int .i64 d, .int .i64 co, .int .i64 fl, .int .i64 dy, .int .i64 va, .int .i64 st, .int .i64 ho, .int .u64 nx] 31 (0, 0)) _ rfl)
  have hc := fun j => cell_of_row _ w.heap.size j _ _ _ HR.out
  have hE := fun W => eqM k tk c d co fl dy va st ho nx 0 0 0 0 0 0 0 0 0 0 0 W
  have hG := guardM
  have HM := Lib.hid (fun W => rMayMail_any k tk c d co fl dy va st ho nx ht W)
  have HC := Lib.hid rmayCarrier_any
  obtain ⟨hn0, hn1⟩ := hn
  obtain ⟨ha0, ha1⟩ := ha
  generalize Num.mayC = mayC at *
  generalize Ltr.mailB k tk c d co fl dy va st ho nx = MB at *
  generalize Ltr.eqM k tk c d co fl dy va st ho nx 0 0 0 0 0 0 0 0 0 0 0 = E at *
  by_cases hz : n = 0
  · subst hz
    go_enter Tryd.func10, Tryd.ntmps10
    go_wp2_with (first | (go_at_call 39; refine (HC.out _ _).mono ?_; rintro e w' ⟨rfl, rfl⟩) | (go_at_call 40; refine (HM.out _).mono ?_; rintro e wn ⟨rfl, hbn⟩; have HB := Lib.hid (HB.out.trans (hbn.mono HB.out.size)); have HR := Lib.hid ((hbn.block _ (block_lt HR.out)).trans HR.out); have hc := fun j => cell_of_row _ w.heap.size j _ _ _ HR.out; clear hbn))
    all_goals
      go_ret
      refine ⟨ret_bool ?_, by first | exact HB.out | exact (Below.refl _ _).alloc (Nat.le_refl _) _⟩
      rw [HFIN.out, Bool.eq_iff_iff]
      try clear HFIN HB hc
      simp_all
      try omega
  · go_enter Tryd.func10, Tryd.ntmps10
    go_wp2_with (first | (go_at_call 39; refine (HC.out _ _).mono ?_; rintro e w' ⟨rfl, rfl⟩) | (go_at_call 40; refine (HM.out _).mono ?_; rintro e wn ⟨rfl, hbn⟩; have HB := Lib.hid (HB.out.trans (hbn.mono HB.out.size)); have HR := Lib.hid ((hbn.block _ (block_lt HR.out)).trans HR.out); have hc := fun j => cell_of_row _ w.heap.size j _ _ _ HR.out; clear hbn))
    all_goals
      go_ret
      refine ⟨ret_bool ?_, by first | exact HB.out | exact (Below.refl _ _).alloc (Nat.le_refl _) _⟩
      rw [HFIN.out, Bool.eq_iff_iff]
      try clear HFIN HB hc
      simp_all
      try omega
end Go.Proofs.YtellhmbebimenaaDoor
end

section
set_option linter.unusedVariables false
set_option linter.unusedSimpArgs false
namespace Go.Proofs.YtellhmbebimenaaDoor
open Go.RowKit

/-- the bytes of a mail that may be -/
def encMh (m : Ml) : List UInt8 := (Wire.be m.k.toNat 1 ++ Wire.be m.tk.toNat 8) ++ Wire.be m.c.toNat 1
def encM (m : Ml) : List UInt8 :=
  if m.k = 3 then encMh m ++ Wire.be m.co.toNat 1
  else if m.k = 2 then (((encMh m ++ Wire.be m.d.toNat 4) ++ Wire.be m.fl.toNat 2) ++ Wire.be m.dy.toNat 4) ++ Wire.be m.va.toNat 8
  else encMh m ++ Wire.be m.d.toNat 4
theorem encM_len (m : Ml) : (encM m).length ≤ 28 := by
  unfold encM encMh
  repeat' split
  all_goals simp only [List.length_append, Wire.be_length]; omega
theorem encM_len11 (m : Ml) : 11 ≤ (encM m).length := by
  unfold encM encMh
  repeat' split
  all_goals simp only [List.length_append, Wire.be_length]; omega
theorem inB_iff {lo hi v : Int} : inB lo hi v = true ↔ lo ≤ v ∧ v ≤ hi := by unfold inB; simp
structure MlB (m : Ml) : Prop where
  k : 1 ≤ m.k ∧ m.k ≤ 5
  num : Tkt.numB m.tk = true
  c : 1 ≤ m.c ∧ m.c ≤ 4
  co : m.k = 3 → 1 ≤ m.co ∧ m.co ≤ 17
  d : ¬ m.k = 3 → 0 ≤ m.d ∧ m.d ≤ 1000000
  w : m.k = 2 → (1 ≤ m.fl ∧ m.fl ≤ 9999) ∧ (0 ≤ m.dy ∧ m.dy ≤ 1000000) ∧ (0 ≤ m.va ∧ m.va ≤ 1000000000000) ∧ m.st = 1 ∧ m.ho = 0 ∧ m.nx = 0
  z2 : ¬ m.k = 2 → m.fl = 0 ∧ m.dy = 0 ∧ m.va = 0 ∧ m.st = 0 ∧ m.ho = 0 ∧ m.nx = 0
  z3 : m.k = 3 → m.d = 0
  zc : ¬ m.k = 3 → m.co = 0
theorem ml_facts {m : Ml} (h : m.may = true) : MlB m := by
  unfold Ml.may Ltr.mailB at h
  simp only [Bool.and_eq_true] at h
  obtain ⟨⟨⟨hk, hn⟩, hc⟩, h⟩ := h
  rw [inB_iff] at hk hc
  by_cases h3 : m.k = 3
  · rw [if_pos h3] at h
    unfold Ltr.czB at h
    simp only [Bool.and_eq_true, beq_iff_eq] at h
    rw [inB_iff] at h
    exact ⟨hk, hn, hc, fun _ => h.1, fun g => absurd h3 g, fun g => absurd g (by omega), fun _ => h.2.2, fun _ => h.2.1, fun g => absurd h3 g⟩
  · rw [if_neg h3] at h
    by_cases h2 : m.k = 2
    · rw [if_pos h2] at h
      unfold flyB at h
      simp only [Bool.and_eq_true, beq_iff_eq] at h
      simp only [inB_iff] at h
      exact ⟨hk, hn, hc, fun g => absurd g h3, fun _ => h.1, fun _ => ⟨h.2.2.1.1.1, h.2.2.1.1.2, h.2.2.1.2, h.2.2.2.1, h.2.2.2.2.1, h.2.2.2.2.2⟩, fun g => absurd h2 g, fun g => absurd g h3, fun _ => h.2.1⟩
    · rw [if_neg h2] at h
      unfold Ltr.czB at h
      simp only [Bool.and_eq_true, beq_iff_eq] at h
      rw [inB_iff] at h
      exact ⟨hk, hn, hc, fun g => absurd g h3, fun _ => h.1, fun g => absurd g h2, fun _ => h.2.2, fun g => absurd g h3, fun _ => h.2.1⟩
theorem mailBytes_yes (m : Ml) (ht : U64 m.tk) (hva : I64 m.va) (hm : m.may = true) (w : World) :
    Calls Tryd.prog 44 #[.agg m.arr] w fun e w' => ∃ v, e = .returned (.tuple #[v, .int .i64 0]) ∧ w'.ownsRow w.heap.size 5 1 v (encM m).length (bytesV (encM m)) ∧ Below w.heap.size w w' := by
  have F := ml_facts hm
  obtain ⟨k, tk, c, d, co, fl, dy, va, st, ho, nx⟩ := m
  obtain ⟨hk, hn, hc, hco, hd, hw, hz2, hz3, hzc⟩ := F
  simp only at ht hva hk hc hco hd hw
  obtain ⟨ht0, ht1⟩ := ht
  obtain ⟨K, rfl⟩ := Int.eq_ofNat_of_zero_le (show 0 ≤ k by omega)
  obtain ⟨T, rfl⟩ := Int.eq_ofNat_of_zero_le ht0
  obtain ⟨C, rfl⟩ := Int.eq_ofNat_of_zero_le (show 0 ≤ c by omega)
  unfold Ml.may at hm
  simp only at hm
  by_cases h3 : (K : Int) = 3
  · obtain rfl : K = 3 := by omega
    have hco := hco h3
    obtain ⟨CO, rfl⟩ := Int.eq_ofNat_of_zero_le (show 0 ≤ co by omega)
    have h := mailBytesD T C CO d fl dy va st ho nx (by omega) (by omega) (by omega) ⟨ht0, ht1⟩ hva hm w
    unfold encM encMh Ml.arr
    simp only [Int.toNat_natCast]
    rw [if_pos h3]
    simp only [List.nil_append] at h
    exact h
  · by_cases h2 : (K : Int) = 2
    · obtain rfl : K = 2 := by omega
      have hd := hd h3
      obtain ⟨⟨f0, f1⟩, ⟨d0, d1⟩, ⟨v0, v1⟩, -⟩ := hw h2
      obtain ⟨D, rfl⟩ := Int.eq_ofNat_of_zero_le hd.1
      obtain ⟨FL, rfl⟩ := Int.eq_ofNat_of_zero_le (show 0 ≤ fl by omega)
      obtain ⟨DY, rfl⟩ := Int.eq_ofNat_of_zero_le d0
      obtain ⟨VA, rfl⟩ := Int.eq_ofNat_of_zero_le v0
      have h := mailBytesG T C D FL DY VA co st ho nx (by omega) (by omega) (by omega) (by omega) (by omega) (by omega) ⟨ht0, ht1⟩ hva hm w
      unfold encM encMh Ml.arr
      simp only [Int.toNat_natCast]
      rw [if_neg h3, if_pos h2]
      simp only [List.nil_append] at h
      exact h
    · have hd := hd h3
      obtain ⟨D, rfl⟩ := Int.eq_ofNat_of_zero_le hd.1
      have h := mailBytesO K T C D co fl dy va st ho nx (by omega) h3 h2 (by omega) (by omega) (by omega) ⟨ht0, ht1⟩ hva hm w
      unfold encM encMh Ml.arr
      simp only [Int.toNat_natCast]
      rw [if_neg h3, if_neg h2]
      simp only [List.nil_append] at h
      exact h
/-- the mail of a letter -/
def Lt.ml (x : Lt) : Ml := ⟨x.k, x.tk, x.c, x.d, x.co, x.fl, x.dy, x.va, x.st, x.ho, x.nx⟩
def encLh (x : Lt) : List UInt8 := ((Wire.be x.f.toNat 2 ++ Wire.be x.t.toNat 2) ++ Wire.be x.n.toNat 8) ++ Wire.be x.a.toNat 8
/-- the bytes of a letter that may be -/
def encLt (x : Lt) : List UInt8 := if x.n = 0 then encLh x else encLh x ++ encM x.ml
structure LtB (x : Lt) : Prop where
  f : 100 ≤ x.f ∧ x.f ≤ 999
  t : 100 ≤ x.t ∧ x.t ≤ 999
  ne : ¬ x.f = x.t
  n : x.n ≤ 4611686018427387904
  a : x.a ≤ 4611686018427387904
  z : x.n = 0 → x.ml = zMl
  m : ¬ x.n = 0 → x.ml.may = true
theorem lt_facts {x : Lt} (h : x.may = true) : LtB x := by
  unfold Lt.may Ltr.mayB at h
  simp only [Bool.and_eq_true, Bool.not_eq_true', decide_eq_true_eq, decide_eq_false_iff_not] at h
  obtain ⟨⟨⟨⟨⟨h1, h2⟩, h3⟩, h4⟩, h5⟩, h6⟩ := h
  rw [Num.mayC_iff] at h1 h2
  refine ⟨h1, h2, h3, h4, h5, fun h0 => ?_, fun h0 => ?_⟩
  · rw [if_pos h0] at h6
    unfold Ltr.eqM at h6
    simp only [Bool.and_eq_true, beq_iff_eq] at h6
    obtain ⟨e1, e2, e3, e4, e5, e6, e7, e8, e9, e10, e11⟩ := h6
    unfold Lt.ml zMl
    rw [e1, e2, e3, e4, e5, e6, e7, e8, e9, e10, e11]
  · rw [if_neg h0] at h6
    exact h6
/-- a part of a row -/
theorem row_loO {w : World} {g : Nat} {cs : List Value} {e : TypeId} (n o : Nat) (h : w.heap[g]? = some (.cells cs.toArray e (0, 0))) {ds : List Value} (hd : (cs.drop o).take n = ds) (hn : ds.length = n) : loL n w g o = ds ∧ okL n w g o :=
  loL_of (fun j v hv => by
    rw [← hd] at hv
    have hj : j < n := by have := (List.getElem?_eq_some_iff.1 hv).1; rw [List.length_take] at this; omega
    rw [List.getElem?_take, if_pos hj, List.getElem?_drop] at hv
    exact (cell_of_row _ _ (o + j) _ _ _ h).trans (by rw [List.getElem?_toArray]; exact hv)) hn
end Go.Proofs.YtellhmbebimenaaDoor
end

section
set_option linter.unusedVariables false
namespace Go.Proofs.YtellhmbebimenaaDoor
open Go.RowKit

def lS1 (b : List UInt8) : Option (List UInt8) := rNumS (some (b.take 20)) 2
def lS2 (b : List UInt8) : Option (List UInt8) := rNumS (lS1 b) 2
def lS3 (b : List UInt8) : Option (List UInt8) := rNumS (lS2 b) 8
def lS4 (b : List UInt8) : Option (List UInt8) := rNumS (lS3 b) 8
def lNum (b : List UInt8) : Nat := rNumV (lS2 b) 8
def lMail (b : List UInt8) : Ml := if lNum b = 0 then zMl else mOf (b.drop 20)
/-- what lies in bytes, read as a letter -/
def lGet (b : List UInt8) : Lt := ⟨rNumV (some (b.take 20)) 2, rNumV (lS1 b) 2, lNum b, rNumV (lS3 b) 8, (lMail b).k, (lMail b).tk, (lMail b).c, (lMail b).d, (lMail b).co, (lMail b).fl, (lMail b).dy, (lMail b).va, (lMail b).st, (lMail b).ho, (lMail b).nx⟩
def okL20 (b : List UInt8) : Bool := decide (lS4 b = some []) && (if lNum b = 0 then decide (b.drop 20 = []) else okM (b.drop 20)) && (lGet b).may
def zLt : Lt := ⟨0, 0, 0, 0, 0, 0, 0, 0, 0, 0, 0, 0, 0, 0, 0⟩
def lOf (b : List UInt8) : Lt := if okL20 b = true then lGet b else zLt
def Lt.arr (x : Lt) : Array Value := #[.int .i64 x.f, .int .i64 x.t, .int .u64 x.n, .int .u64 x.a, .int .i64 x.k, .int .u64 x.tk, .int .i64 x.c, .int .i64 x.d, .int .i64 x.co, .int .i64 x.fl, .int .i64 x.dy, .int .i64 x.va, .int .i64 x.st, .int .i64 x.ho, .int .u64 x.nx]
end Go.Proofs.YtellhmbebimenaaDoor
end
