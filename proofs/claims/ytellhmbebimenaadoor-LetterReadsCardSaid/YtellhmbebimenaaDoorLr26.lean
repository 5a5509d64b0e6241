/- Contract: a letter's bytes (letter.Bytes). Plain facts: which texts are numbers, above a bound or not; no program in sight. -/
import Derived.Test.YtellhmbebimenaaDoorLr24
import Derived.Deep.RegionHeld3
import Derived.Test.YtellhmbebimenaaDoorLr13
import GoSem.Op.String

section
set_option linter.unusedVariables false
set_option linter.unusedSimpArgs false
namespace Go.Proofs.YtellhmbebimenaaDoor
open Go.RowKit

theorem lt_execLoad (ρ : Operand → Value) (dst : Option Tmp) (x : Operand) (ty : TypeId) (pos : String) (after : Array Edge) (guard : Option (Nat × Bool)) :
    execOp ρ { dst, op := .load 31 x, type := ty, pos, after, guard } = recLoad 31 (ρ x) := rfl
theorem lt_load (w : World) (b o : Nat) (h : okL 15 w b o) : (recLoad 31 (.pointer (some ⟨b, o, none⟩))).run Tryd.prog w = .ok (.value (.agg (loL 15 w b o).toArray)) w := by
  unfold recLoad
  rw [Sem.run_bind, run_load_rec 15 Tryd.underlying31 rfl (by kernel_rfl) w b o h]
  rfl
theorem lt_execStore (ρ : Operand → Value) (dst : Option Tmp) (x y : Operand) (ty : TypeId) (pos : String) (after : Array Edge) (guard : Option (Nat × Bool)) :
    execOp ρ { dst, op := .store 31 x y, type := ty, pos, after, guard } = recStore 31 (ρ x) (ρ y) := rfl
theorem lt_store (w : World) (b o : Nat) (cs : List Value) (ht : w.there b o 15) (hn : cs.length = 15) (h1 : cs.all (·.oneCell') = true) :
    (recStore 31 (.pointer (some ⟨b, o, none⟩)) (.agg cs.toArray)).run Tryd.prog w = .ok .skip (w.setCells b o cs) := by
  unfold recStore
  rw [Sem.run_bind, run_store_rec 15 (by kernel_rfl) w b o cs ht hn h1]
  rfl
attribute [local go_sem ↓] ml_execLoad lt_execLoad

attribute [local go_sem] ml_load lt_load loL_drew okL_drew

set_option maxRecDepth 8000 in
set_option maxHeartbeats 1000000 in
theorem lBytes_no (x : Lt) (hw : x.wf) (hm : x.may = false) (w : World) :
    Calls Tryd.prog 15 #[.agg #[.int .i64 x.f, .int .i64 x.t, .int .u64 x.n, .int .u64 x.a, .int .i64 x.k, .int .u64 x.tk, .int .i64 x.c, .int .i64 x.d, .int .i64 x.co, .int .i64 x.fl, .int .i64 x.dy, .int .i64 x.va, .int .i64 x.st, .int .i64 x.ho, .int .u64 x.nx]] w fun e w' => e = .returned (.tuple #[.slice none 0 0, .int .i64 2]) ∧ Below w.heap.size w w' := by
  have HMM := Lib.hid (fun W => lmay_any x.f x.t x.n x.a x.k x.tk x.c x.d x.co x.fl x.dy x.va x.st x.ho x.nx hw.tk hw.va hw.n hw.a W)
  have hq : Ltr.mayB x.f x.t x.n x.a x.k x.tk x.c x.d x.co x.fl x.dy x.va x.st x.ho x.nx = false := hm
  rw [hq] at HMM
  have HBB := Lib.hid ((Below.refl w.heap.size w).alloc (Nat.le_refl _) (.cells #[.int .i64 x.f, .int .i64 x.t, .int .u64 x.n, .int .u64 x.a, .int .i64 x.k, .int .u64 x.tk, .int .i64 x.c, .int .i64 x.d, .int .i64 x.co, .int .i64 x.fl, .int .i64 x.dy, .int .i64 x.va, .int .i64 x.st, .int .i64 x.ho, .int .u64 x.nx] 31))
  obtain ⟨f1, f2⟩ := row_loT 15 (new_rowW w (.cells #[.int .i64 x.f, .int .i64 x.t, .int .u64 x.n, .int .u64 x.a, .int .i64 x.k, .int .u64 x.tk, .int .i64 x.c, .int .i64 x.d, .int .i64 x.co, .int .i64 x.fl, .int .i64 x.dy, .int .i64 x.va, .int .i64 x.st, .int .i64 x.ho, .int .u64 x.nx] 31) _ rfl) rfl rfl
  clear hq hm hw
  go_enter Tryd.func15, Tryd.ntmps15
  go_wp2_with (go_at_call 17; refine (HMM.out _).mono ?_; rintro e wn ⟨rfl, hbn⟩)
  go_ret2
  exact ⟨rfl, HBB.out.trans (hbn.mono HBB.out.size)⟩
set_option maxRecDepth 8000 in
set_option maxHeartbeats 4000000 in
theorem lBytes_yes (x : Lt) (hw : x.wf) (hm : x.may = true) (w : World) :
    Calls Tryd.prog 15 #[.agg #[.int .i64 x.f, .int .i64 x.t, .int .u64 x.n, .int .u64 x.a, .int .i64 x.k, .int .u64 x.tk, .int .i64 x.c, .int .i64 x.d, .int .i64 x.co, .int .i64 x.fl, .int .i64 x.dy, .int .i64 x.va, .int .i64 x.st, .int .i64 x.ho, .int .u64 x.nx]] w fun e w' => ∃ v, e = .returned (.tuple #[v, .int .i64 0]) ∧ w'.ownsRow w.heap.size 5 1 v (encLt x).length (bytesV (encLt x)) ∧ Below w.heap.size w w' := by
  have HMM := Lib.hid (fun W => lmay_any x.f x.t x.n x.a x.k x.tk x.c x.d x.co x.fl x.dy x.va x.st x.ho x.nx hw.tk hw.va hw.n hw.a W)
  have hq : Ltr.mayB x.f x.t x.n x.a x.k x.tk x.c x.d x.co x.fl x.dy x.va x.st x.ho x.nx = true := hm
  rw [hq] at HMM
  have F0 := lt_facts hm
  have HMB := Lib.hid (fun (h : ¬ x.n = 0) W => mailBytes_yes x.ml hw.tk hw.va (F0.m h) W)
  obtain ⟨n0, n1⟩ := hw.n
  obtain ⟨a0, a1⟩ := hw.a
  have hf := F0.f; have ht := F0.t; have hnn := F0.n; have haa := F0.a
  obtain ⟨F, hF⟩ := Int.eq_ofNat_of_zero_le (show 0 ≤ x.f by omega)
  obtain ⟨T, hT⟩ := Int.eq_ofNat_of_zero_le (show 0 ≤ x.t by omega)
  obtain ⟨N, hN⟩ := Int.eq_ofNat_of_zero_le n0
  obtain ⟨A, hA⟩ := Int.eq_ofNat_of_zero_le a0
  have HEN : Hid (encLt x = if N = 0 then ((Wire.be F 2 ++ Wire.be T 2) ++ Wire.be N 8) ++ Wire.be A 8 else (((Wire.be F 2 ++ Wire.be T 2) ++ Wire.be N 8) ++ Wire.be A 8) ++ encM x.ml) := Lib.hid (by unfold encLt encLh; rw [hF, hT, hN, hA]; simp only [Int.toNat_natCast]; by_cases h : N = 0 <;> simp [h])
  rw [hF] at hf; rw [hT] at ht; rw [hN] at n1 hnn HMB; rw [hA] at a1 haa
  have hF2 : F < 65536 := by omega
  have hT2 : T < 65536 := by omega
  have hN2 : N < 18446744073709551616 := by omega
  have hA2 : A < 18446744073709551616 := by omega
  have z1 : IntKind.u64.wrap (F : Int) = (F : Int) := by rw [IntKind.wrap_u64]; omega
  have z2 : IntKind.u64.wrap (T : Int) = (T : Int) := by rw [IntKind.wrap_u64]; omega
  rw [hF, hT, hN, hA]
  rw [hF, hT, hN, hA] at HMM
  generalize encLt x = E at *
  have HML : Hid (∀ W : World, ¬ (N : Int) = 0 → Calls Tryd.prog 44 #[.agg #[.int .i64 x.k, .int .u64 x.tk, .int .i64 x.c, .int .i64 x.d, .int .i64 x.co, .int .i64 x.fl, .int .i64 x.dy, .int .i64 x.va, .int .i64 x.st, .int .i64 x.ho, .int .u64 x.nx]] W fun e w' => ∃ v, e = .returned (.tuple #[v, .int .i64 0]) ∧ w'.ownsRow W.heap.size 5 1 v (encM x.ml).length (bytesV (encM x.ml)) ∧ Below W.heap.size W w') := Lib.hid (fun W h => HMB.out h W)
  have HLM := Lib.hid (encM_len x.ml)
  generalize encM x.ml = EM at *
  clear hF hT hN hA hq hm hw F0 HMB hf ht n0 n1 a0 a1 hnn haa
  have HBP := Lib.hid ((Below.refl w.heap.size w).alloc (Nat.le_refl _) (.cells #[.int .i64 (F : Int), .int .i64 (T : Int), .int .u64 (N : Int), .int .u64 (A : Int), .int .i64 x.k, .int .u64 x.tk, .int .i64 x.c, .int .i64 x.d, .int .i64 x.co, .int .i64 x.fl, .int .i64 x.dy, .int .i64 x.va, .int .i64 x.st, .int .i64 x.ho, .int .u64 x.nx] 31))
  have HR0 := Lib.hid (new_rowW w (.cells #[.int .i64 (F : Int), .int .i64 (T : Int), .int .u64 (N : Int), .int .u64 (A : Int), .int .i64 x.k, .int .u64 x.tk, .int .i64 x.c, .int .i64 x.d, .int .i64 x.co, .int .i64 x.fl, .int .i64 x.dy, .int .i64 x.va, .int .i64 x.st, .int .i64 x.ho, .int .u64 x.nx] 31) _ rfl)
  obtain ⟨f1, f2⟩ := row_loT 15 HR0.out rfl rfl
  go_enter Tryd.func15, Tryd.ntmps15
  go_wp2_with fail
  clear f1 f2
  refine (HMM.out _).mono ?_
  rintro e w1 ⟨rfl, hbm⟩
  have hrw : w1.heap[w.heap.size]? = some (.cells #[.int .i64 (F : Int), .int .i64 (T : Int), .int .u64 (N : Int), .int .u64 (A : Int), .int .i64 x.k, .int .u64 x.tk, .int .i64 x.c, .int .i64 x.d, .int .i64 x.co, .int .i64 x.fl, .int .i64 x.dy, .int .i64 x.va, .int .i64 x.st, .int .i64 x.ho, .int .u64 x.nx] 31 (0, 0)) := (hbm.block _ (block_lt HR0.out)).trans HR0.out
  have HB1 := Lib.hid (HBP.out.trans (hbm.mono HBP.out.size))
  clear hbm
  have hle : w.heap.size < w1.drew.heap.size := by have := block_lt hrw; simpa using this
  have hcp := fun j => cell_of_row w1 w.heap.size j _ _ _ hrw
  go_wp2_with fail
  have hi1 := new_writer w1.drew
  have hb1 := HB1.out.drew.alloc (Nat.le_of_lt hle) (.cells #[.slice none 0 0, .int .i64 0, .bool false] 76)
  go_region_held3 (fun w' => w'.cell? ⟨w.heap.size, 0, none⟩ = some (.int .i64 (F : Int)) ∧ w'.cell? ⟨w.heap.size, 1, none⟩ = some (.int .i64 (T : Int)) ∧ w'.cell? ⟨w.heap.size, 2, none⟩ = some (.int .u64 (N : Int)) ∧ w'.cell? ⟨w.heap.size, 3, none⟩ = some (.int .u64 (A : Int))) (first | exact ⟨cell_of_row _ _ 0 _ _ _ hrw, cell_of_row _ _ 1 _ _ _ hrw, cell_of_row _ _ 2 _ _ _ hrw, cell_of_row _ _ 3 _ _ _ hrw⟩ | exact ⟨cell_of_row _ _ 0 _ _ _ (row_allocW hrw _), cell_of_row _ _ 1 _ _ _ (row_allocW hrw _), cell_of_row _ _ 2 _ _ _ (row_allocW hrw _), cell_of_row _ _ 3 _ _ _ (row_allocW hrw _)⟩ | go_keep) (first
    | (go_at_call 43; refine (wnumber_okE hi1 (by omega) _ _ (by decide) (by first | exact hF2 | exact hT2 | exact hN2 | exact hA2)).mono ?_; rintro e w2 ⟨rfl, hw2⟩; have hrw2 := hw2.2.1.block w.heap.size hle; have hrw : w2.heap[w.heap.size]? = some (.cells #[.int .i64 (F : Int), .int .i64 (T : Int), .int .u64 (N : Int), .int .u64 (A : Int), .int .i64 x.k, .int .u64 x.tk, .int .i64 x.c, .int .i64 x.d, .int .i64 x.co, .int .i64 x.fl, .int .i64 x.dy, .int .i64 x.va, .int .i64 x.st, .int .i64 x.ho, .int .u64 x.nx] 31 (0, 0)) := hrw2.trans (by first | exact hrw | exact row_allocW hrw _); have hi1 := hw2.1; have hb1 := hb1.trans (hw2.2.1.mono (Nat.le_of_lt hle)); clear hw2 hrw2))
  have HI : Hid (IsW w2 w1.heap.size w1.heap.size 36 (some ((((Wire.be F 2 ++ Wire.be T 2) ++ Wire.be N 8) ++ Wire.be A 8)))) := Lib.hid hi1
  have HB := Lib.hid hb1
  have HRW := Lib.hid hrw
  clear hi1 hb1 hrw hcp
  have hlw : w.heap.size < w1.heap.size := hle
  generalize (((Wire.be F 2 ++ Wire.be T 2) ++ Wire.be N 8) ++ Wire.be A 8) = H at *
  have hcp := fun j => cell_of_row w2 w.heap.size j _ _ _ HRW.out
  by_cases h0 : N = 0
  · rw [if_pos h0] at HEN
    have hn0 : ((N : Int) != 0) = false := by rw [h0]; rfl
    clear h0
    go_wp2_with fail
    refine (wend_some _ _ _ _ (by omega) _ HI.out).mono ?_
    rintro e w6 ⟨u, rfl, hown, hb6⟩
    have HO6 := Lib.hid (own_mono hown HB.out.size)
    have HB6 := Lib.hid (HB.out.trans (hb6.mono HB.out.size))
    obtain ⟨q6, c6, rfl⟩ := own_form hown
    clear hown hb6
    generalize hnl : H.length = nl at *
    have HNL := Lib.hid hnl
    clear hnl
    go_wp2
    go_ret2
    exact ⟨_, rfl, by rw [HEN.out, HNL.out]; exact HO6.out, HB6.out⟩
  · rw [if_neg h0] at HEN
    have hn0 : ((N : Int) != 0) = true := by rw [bne_iff_ne]; omega
    have HMW := Lib.hid (fun W => HML.out W (by omega))
    clear h0 HML
    obtain ⟨g1, g2⟩ := row_loO 11 4 HRW.out (ds := [.int .i64 x.k, .int .u64 x.tk, .int .i64 x.c, .int .i64 x.d, .int .i64 x.co, .int .i64 x.fl, .int .i64 x.dy, .int .i64 x.va, .int .i64 x.st, .int .i64 x.ho, .int .u64 x.nx]) rfl rfl
    go_wp2_with fail
    clear g1 g2
    refine (HMW.out _).mono ?_
    rintro e w3 ⟨v3, rfl, ho3, hb3⟩
    have HBS := Lib.hid (BS.of_own ho3)
    obtain ⟨q3, c3, rfl⟩ := own_form ho3
    have HI3 := Lib.hid (HI.out.below hb3)
    have HB3 := Lib.hid (HB.out.trans (hb3.mono HB.out.size))
    clear ho3 hb3 hcp
    generalize hml : EM.length = ml at *
    have HMLE := Lib.hid hml
    clear hml
    go_wp2_with fail
    refine (wbytes_some w1.heap.size w1.heap.size 36 _ _ EM (by have := HLM.out; have := HMLE.out; omega) w3 HI3.out HBS.out).mono ?_
    rintro e w4 ⟨rfl, hst⟩
    have HI4 := Lib.hid hst.1
    have HB4 := Lib.hid (HB3.out.trans (hst.2.1.mono (by omega)))
    clear hst
    go_wp2_with fail
    refine (wend_some _ _ _ _ (by have := HLM.out; have := HMLE.out; omega) _ HI4.out).mono ?_
    rintro e w6 ⟨u, rfl, hown, hb6⟩
    have HO6 := Lib.hid (own_mono hown HB4.out.size)
    have HB6 := Lib.hid (HB4.out.trans (hb6.mono HB4.out.size))
    obtain ⟨q6, c6, rfl⟩ := own_form hown
    clear hown hb6
    generalize hnl : (H ++ EM).length = nl at *
    have HNL := Lib.hid hnl
    clear hnl
    go_wp2
    go_ret2
    exact ⟨_, rfl, by rw [HEN.out, HNL.out]; exact HO6.out, HB6.out⟩
end Go.Proofs.YtellhmbebimenaaDoor
end

section
namespace Go.Proofs.YtellhmbebimenaaDoor.Dec

def mayDec (l : List UInt8) : Bool := l.all isDig && (decide (l = [48]) || (decide (l ≠ []) && decide (l.getD 0 0 ≠ 48)))
/-- an error's number -/
def decE (l : List UInt8) (most : Nat) : Nat := if mayDec l = true then (if most < val l then 5 else 0) else 4
def decN (l : List UInt8) (most : Nat) : Nat := if decE l most = 0 then val l else 0

theorem less_val {a b : List UInt8} (ha : a.all isDig = true) (hb : b.all isDig = true) (h : a.length = b.length) : Op.bytesLess a b = decide (val a < val b) := by
  induction a generalizing b with
  | nil =>
    obtain rfl : b = [] := List.length_eq_zero_iff.1 h.symm
    rfl
  | cons x a ih =>
    cases b with
    | nil => simp at h
    | cons y b =>
      simp only [List.all_cons, Bool.and_eq_true] at ha hb
      have hl : a.length = b.length := by simpa using h
      have h1 := ih ha.2 hb.2 hl
      have e1 : val (x :: a) = dval x * 10 ^ a.length + val a := by
        show valF 0 (x :: a) = _
        rw [valF_cons, valF_lin]; simp
      have e2 : val (y :: b) = dval y * 10 ^ b.length + val b := by
        show valF 0 (y :: b) = _
        rw [valF_cons, valF_lin]; simp
      have v1 := val_lt a ha.2
      have v2 := val_lt b hb.2
      rw [hl] at v1 e1
      have d1 := isDig_iff.1 ha.1
      have d2 := isDig_iff.1 hb.1
      have ex : dval x = x.toNat - 48 := rfl
      have ey : dval y = y.toNat - 48 := rfl
      rw [e1, e2]
      show (decide (x < y) || (x == y && Op.bytesLess a b)) = _
      rw [h1]
      generalize 10 ^ b.length = p at *
      rcases Nat.lt_trichotomy x.toNat y.toNat with hlt | heq | hgt
      · have : x < y := UInt8.lt_iff_toNat_lt.2 hlt
        have hm : (dval x + 1) * p ≤ dval y * p := Nat.mul_le_mul_right p (by omega)
        rw [Nat.add_mul] at hm
        have hv : dval x * p + val a < dval y * p + val b := by omega
        simp [this, hv]
      · have : x = y := UInt8.toNat_inj.1 heq
        subst this
        have hx : ¬ x < x := by rw [UInt8.lt_iff_toNat_lt]; omega
        simp [hx]
      · have : ¬ x < y := by rw [UInt8.lt_iff_toNat_lt]; omega
        have hne : ¬ x = y := fun e => by rw [e] at hgt; omega
        have hm : (dval y + 1) * p ≤ dval x * p := Nat.mul_le_mul_right p (by omega)
        rw [Nat.add_mul] at hm
        have hv : ¬ dval x * p + val a < dval y * p + val b := by omega
        simp [this, hne, hv]
theorem val_inj {a b : List UInt8} (ha : a.all isDig = true) (hb : b.all isDig = true) (h : a.length = b.length) (hv : val a = val b) : a = b := by
  rw [← val_text a ha, ← val_text b hb, h, hv]
theorem mayDec_all {l : List UInt8} (h : mayDec l = true) : l.all isDig = true := by unfold mayDec at h; rw [Bool.and_eq_true] at h; exact h.1
theorem mayDec_lead {l : List UInt8} (h : mayDec l = true) (h1 : 1 < l.length) : 10 ^ (l.length - 1) ≤ val l := by
  have ha := mayDec_all h
  unfold mayDec at h
  simp only [Bool.and_eq_true, Bool.or_eq_true, decide_eq_true_eq] at h
  cases l with
  | nil => simp at h1
  | cons x a =>
    have h2 : x ≠ 48 := by
      rcases h.2 with h | h
      · rw [h] at h1; simp at h1
      · simpa using h.2
    simp only [List.all_cons, Bool.and_eq_true] at ha
    have d := isDig_iff.1 ha.1
    have hx : x.toNat ≠ 48 := fun e => h2 (UInt8.toNat_inj.1 e)
    have e1 : val (x :: a) = dval x * 10 ^ a.length + val a := by
      show valF 0 (x :: a) = _
      rw [valF_cons, valF_lin]; simp
    rw [e1, List.length_cons, Nat.add_sub_cancel]
    have : 1 * 10 ^ a.length ≤ dval x * 10 ^ a.length := Nat.mul_le_mul_right _ (by unfold dval; omega)
    omega
theorem mayDec_ne {l : List UInt8} (h : mayDec l = true) : l ≠ [] := by
  intro e; subst e; simp [mayDec] at h
theorem above_iff {l : List UInt8} (h : mayDec l = true) (most : Nat) :
    (decide ((digits most).length < l.length) || (decide (l.length = (digits most).length) && !(Op.bytesLess l (digits most) || l == digits most))) = decide (most < val l) := by
  have ht := digits_all most
  have hv := digits_val most
  have hl := mayDec_all h
  have hn := mayDec_ne h
  have hpos : 0 < l.length := by rcases l with _ | ⟨x, l⟩; exact absurd rfl hn; simp
  have htp : 0 < (digits most).length := by
    have := digits_ne most
    rcases hd : digits most with _ | ⟨x, r⟩
    · exact absurd hd this
    · simp
  rcases Nat.lt_trichotomy (digits most).length l.length with h1 | h1 | h1
  · have g1 := val_lt _ ht
    rw [hv] at g1
    have g2 := mayDec_lead h (by omega)
    have g3 := Nat.pow_le_pow_right (n := 10) (by decide) (show (digits most).length ≤ l.length - 1 by omega)
    have : most < val l := by omega
    simp [h1, this]
  · have h2 := less_val hl ht h1.symm
    rw [hv] at h2
    rw [h2]
    have h3 : ¬ (digits most).length < l.length := by omega
    by_cases he : l = digits most
    · subst he
      simp [hv]
    · have hne : val l ≠ most := fun e => he (val_inj hl ht h1.symm (by rw [e, hv]))
      have : (l == digits most) = false := by simpa using he
      rw [this, Bool.eq_iff_iff]
      simp [h1]
      omega
  · have g1 := val_lt _ hl
    have g2 : 10 ^ l.length ≤ most := by
      rcases Nat.lt_or_ge most (10 ^ l.length) with h3 | h3
      · have := digits_length_le most (l.length - 1) (by rw [show l.length - 1 + 1 = l.length from by omega]; exact h3)
        omega
      · exact h3
    have h3 : ¬ (digits most).length < l.length := by omega
    have h4 : ¬ l.length = (digits most).length := by omega
    have h5 : ¬ most < val l := by omega
    simp [h3, h4, h5]
theorem digits_lead (n : Nat) (h : 1 ≤ n) : (digits n).getD 0 0 ≠ 48 := by
  induction n using Nat.strongRecOn with
  | _ n ih =>
    by_cases hn : n < 10
    · rw [digits_lt hn]
      intro e
      have : (dig n).toNat = 48 := congrArg UInt8.toNat e
      rw [dig_toNat] at this
      omega
    · rw [digits_ge hn]
      have h1 := ih (n / 10) (by omega) (by omega)
      have h2 := digits_ne (n / 10)
      rcases hd : digits (n / 10) with _ | ⟨x, r⟩
      · exact absurd hd h2
      · rw [hd] at h1; simpa using h1
theorem mayDec_digits (n : Nat) : mayDec (digits n) = true := by
  unfold mayDec
  rw [digits_all]
  rcases Nat.eq_zero_or_pos n with h | h
  · subst h; rw [digits_lt (by decide)]; rfl
  · have h1 := digits_lead n h
    have h2 := digits_ne n
    have h3 : (decide (digits n ≠ []) && decide ((digits n).getD 0 0 ≠ 48)) = true := by
      rw [Bool.and_eq_true, decide_eq_true_eq, decide_eq_true_eq]; exact ⟨h2, h1⟩
    rw [h3]; simp
theorem decE_digits (n most : Nat) : decE (digits n) most = if most < n then 5 else 0 := by unfold decE; rw [if_pos (mayDec_digits n), digits_val]
theorem decN_digits (n most : Nat) : decN (digits n) most = if most < n then 0 else n := by
  unfold decN
  rw [decE_digits, digits_val]
  by_cases h : most < n
  · rw [if_pos h, if_pos h]; rfl
  · rw [if_neg h, if_neg h]; rfl
theorem val_take_le (l : List UInt8) (k : Nat) : val (l.take k) ≤ val l := by
  have h := val_append (l.take k) (l.drop k)
  rw [List.take_append_drop] at h
  have : val (l.take k) * 1 ≤ val (l.take k) * 10 ^ (l.drop k).length := Nat.mul_le_mul_left _ (Nat.pow_pos (by decide))
  omega
end Go.Proofs.YtellhmbebimenaaDoor.Dec
end
