/- Contracts: which mails may be (request.MayMail, couponref16.MayMail). Contracts: which mails may be, by the reference (couponref16.MayMail). -/
import Derived.Test.YtbmphlpmipkpcaaGreatRnm5
import Derived.Test.YtbmphlpmipkpcaaGreatRnm10

section
set_option linter.unusedVariables false
set_option linter.unusedSimpArgs false
namespace Go.Proofs.YtbmphlpmipkpcaaGreat
open Go.RowKit

theorem ite_okS {p : Prop} [Decidable p] (a : Bool) (w : World) : (if p then Result.ok a w else Result.ok false w) = Result.ok (decide p && a) w := by split <;> simp [*]
def Ltr.eqC (fl dy va st ho nx fl' dy' va' st' ho' nx' : Int) : Bool := fl == fl' && (dy == dy' && (va == va' && (st == st' && (ho == ho' && nx == nx'))))
theorem eqInC (fl dy va st ho nx fl' dy' va' st' ho' nx' : Int) (w : World) : (Op.equalIn 10000 33 (.agg #[.int .i64 fl, .int .i64 dy, .int .i64 va, .int .i64 st, .int .i64 ho, .int .u64 nx]) (.agg #[.int .i64 fl', .int .i64 dy', .int .i64 va', .int .i64 st', .int .i64 ho', .int .u64 nx'])).run Tryz.prog w = .ok (Ltr.eqC fl dy va st ho nx fl' dy' va' st' ho' nx') w := by
  have hS : Tryz.prog.underlying 33 = some (.struct (Tryz.prog.fieldsOf 33)) := by kernel_rfl
  have hp : Tryz.prog.stoodInHeld 33 = false := by kernel_rfl
  unfold Ltr.eqC
  rw [show (10000 : Nat) = 9999 + 1 from rfl, run_equalIn_agg w 9999 33 _ _ hS hp]
  simp only [Program.fieldsOf, Tryz.underlying33]
  go_simp
  repeat' split
  all_goals simp [*]

set_option maxRecDepth 10000 in
theorem eqInM (k tk c d co fl dy va st ho nx k' tk' c' d' co' fl' dy' va' st' ho' nx' : Int) (w : World) : (Op.equalIn 10000 78 (.agg #[.int .i64 k, .int .u64 tk, .int .i64 c, .int .i64 d, .int .i64 co, .int .i64 fl, .int .i64 dy, .int .i64 va, .int .i64 st, .int .i64 ho, .int .u64 nx]) (.agg #[.int .i64 k', .int .u64 tk', .int .i64 c', .int .i64 d', .int .i64 co', .int .i64 fl', .int .i64 dy', .int .i64 va', .int .i64 st', .int .i64 ho', .int .u64 nx'])).run Tryz.prog w = .ok (Ltr.eqM k tk c d co fl dy va st ho nx k' tk' c' d' co' fl' dy' va' st' ho' nx') w := by
  have hS : Tryz.prog.underlying 78 = some (.struct (Tryz.prog.fieldsOf 78)) := by kernel_rfl
  have hp : Tryz.prog.stoodInHeld 78 = false := by kernel_rfl
  have hS' : Tryz.prog.underlying 33 = some (.struct (Tryz.prog.fieldsOf 33)) := by kernel_rfl
  have hp' : Tryz.prog.stoodInHeld 33 = false := by kernel_rfl
  unfold Ltr.eqM
  rw [show (10000 : Nat) = 9999 + 1 from rfl, run_equalIn_agg w 9999 78 _ _ hS hp]
  obtain ⟨dd, hd⟩ : ∃ dd : Nat, 9999 = dd + 1 + 1 := ⟨9997, rfl⟩
  rw [hd]
  have hC : ∀ (a b : Array Value), (Op.equalIn (dd + 1 + 1) 33 (.agg a) (.agg b)).run Tryz.prog w = (Op.eqFields (dd + 1) a b (Tryz.prog.fieldsOf 33).toList).run Tryz.prog w := fun a b => run_equalIn_agg w (dd + 1) 33 a b hS' hp'
  simp only [Program.fieldsOf, Tryz.underlying78]
  simp only [Program.fieldsOf, Tryz.underlying33] at hC
  clear hd hS hS' hp hp'
  go_simp
  simp only [ite_okS, Bool.and_true]
  rfl
theorem eqM (k tk c d co fl dy va st ho nx k' tk' c' d' co' fl' dy' va' st' ho' nx' : Int) (w : World) : (binOp .eql 78 (.agg #[.int .i64 k, .int .u64 tk, .int .i64 c, .int .i64 d, .int .i64 co, .int .i64 fl, .int .i64 dy, .int .i64 va, .int .i64 st, .int .i64 ho, .int .u64 nx]) (.agg #[.int .i64 k', .int .u64 tk', .int .i64 c', .int .i64 d', .int .i64 co', .int .i64 fl', .int .i64 dy', .int .i64 va', .int .i64 st', .int .i64 ho', .int .u64 nx'])).run Tryz.prog w = .ok (.bool (Ltr.eqM k tk c d co fl dy va st ho nx k' tk' c' d' co' fl' dy' va' st' ho' nx')) w := by
  rw [run_eql_struct, eqInM]
  rfl
theorem guardM (x y : Operand) (xs ys : Array Value) (w : World) : (eqGuard .eql 78 x y (.agg xs) (.agg ys)).run Tryz.prog w = .ok () w := run_eqGuard_agg w _ _ _ _ _ _ (by kernel_rfl)

theorem mailName_any (k : Int) (w : World) : Calls Tryz.prog 31 #[.int .i64 k] w fun e w' => ∃ s : ByteArray, e = .returned (.string s) ∧ (s.data.toList = [] ↔ inB 1 5 k = false) ∧ Below w.heap.size w w' := by
  by_cases h : 1 ≤ k ∧ k ≤ 5
  · have h1 : ¬ k < 1 := by omega
    have h2 : ¬ 5 < k := by omega
    obtain ⟨h, h'⟩ := h
    have hk : k = 1 ∨ k = 2 ∨ k = 3 ∨ k = 4 ∨ k = 5 := by omega
    rcases hk with rfl | rfl | rfl | rfl | rfl
    all_goals
      go_enter Tryz.func31, Tryz.ntmps31
      go_wp2
      go_ret
      exact ⟨_, rfl, by simp [inB], (Below.refl _ _).alloc (Nat.le_refl _) _⟩
  · have h' : k < 1 ∨ 5 < k := by omega
    rcases h' with h' | h'
    all_goals
      go_enter Tryz.func31, Tryz.ntmps31
      go_wp2
      go_ret
      exact ⟨_, rfl, by simp [inB]; omega, (Below.refl _ _).alloc (Nat.le_refl _) _⟩

set_option maxRecDepth 10000 in
set_option maxHeartbeats 4000000 in
theorem mayMailO_any (k tk c d co fl dy va st ho nx : Int) (ht : U64 tk) (hva : I64 va) (h3 : ¬ k = 3) (h2 : ¬ k = 2) (w : World) :
    Calls Tryz.prog 38 #[.agg #[.int .i64 k, .int .u64 tk, .int .i64 c, .int .i64 d, .int .i64 co, .int .i64 fl, .int .i64 dy, .int .i64 va, .int .i64 st, .int .i64 ho, .int .u64 nx]] w fun e w' => e = .returned (.bool (Ltr.mailB k tk c d co fl dy va st ho nx)) ∧ Below w.heap.size w w' := by
  have hm0 := row_allocS (new_rowW w (.cells #[.int .i64 k, .int .u64 tk, .int .i64 c, .int .i64 d, .int .i64 co, .int .i64 fl, .int .i64 dy, .int .i64 va, .int .i64 st, .int .i64 ho, .int .u64 nx] 78 (0, 0)) _ rfl) (.cells #[.pointer none, .pointer none, .bool true, .pointer (some ⟨w.heap.size, 0, none⟩)] 146 (0, 0))
  have hx0 := new_rowW (w.alloc (.cells #[.int .i64 k, .int .u64 tk, .int .i64 c, .int .i64 d, .int .i64 co, .int .i64 fl, .int .i64 dy, .int .i64 va, .int .i64 st, .int .i64 ho, .int .u64 nx] 78 (0, 0))) (.cells #[.pointer none, .pointer none, .bool true, .pointer (some ⟨w.heap.size, 0, none⟩)] 146 (0, 0)) (w.heap.size + 1) (by simp)
  have HBB := Lib.hid (((Below.refl w.heap.size w).alloc (Nat.le_refl _) (.cells #[.int .i64 k, .int .u64 tk, .int .i64 c, .int .i64 d, .int .i64 co, .int .i64 fl, .int .i64 dy, .int .i64 va, .int .i64 st, .int .i64 ho, .int .u64 nx] 78 (0, 0))).alloc (by simp) (.cells #[.pointer none, .pointer none, .bool true, .pointer (some ⟨w.heap.size, 0, none⟩)] 146 (0, 0)))
  have HM0 := Lib.hid hm0; have HX0 := Lib.hid hx0
  have HRUN := Lib.hid (mrunO_any (w.heap.size + 1) w.heap.size true k tk c d co fl dy va st ho nx _ HX0.out HM0.out (by omega) ht h3 h2)
  have HNM := Lib.hid (fun W => mailName_any k W)
  have hE := fun (W : World) => eqM k 0 0 0 co fl dy va st ho nx k 0 0 0 0 0 0 0 0 0 0 W
  have hG := guardM
  obtain ⟨q, hq⟩ : ∃ q, inB 1 5 k = q := ⟨_, rfl⟩
  obtain ⟨G, hGq⟩ : ∃ G, (((true && Tkt.numB tk) && inB 1 4 c) && inB 0 1000000 d) = G := ⟨_, rfl⟩
  obtain ⟨E, hEq⟩ : ∃ E, Ltr.eqM k 0 0 0 co fl dy va st ho nx k 0 0 0 0 0 0 0 0 0 0 = E := ⟨_, rfl⟩
  have HFIN : Hid (Ltr.mailB k tk c d co fl dy va st ho nx = (q && (G && E))) := Lib.hid (by
    rw [← hq, ← hGq, ← hEq]
    unfold Ltr.mailB Ltr.eqM
    try unfold Ltr.czB
    simp (config := { decide := false }) only [if_neg h3, if_neg h2, if_true, if_false, beq_self_eq_true, Bool.true_and]
    try simp only [show ((2 : Int) = 3) = False from by simp, if_false]
    try ac_rfl)
  rw [hEq] at hE
  rw [hq] at HNM
  have HGQ := Lib.hid hGq
  clear hm0 hx0 hq hEq hGq
  go_enter Tryz.func38, Tryz.ntmps38
  go_wp2_with fail
  refine HRUN.out.mono ?_
  rintro e w1 ⟨rfl, hx1, hm1, ht1⟩
  rw [HGQ.out] at hx1
  have HX1 := Lib.hid hx1; have HM1 := Lib.hid hm1
  have HB1 : Hid (Below w.heap.size w w1) := Lib.hid (Turn.below HBB.out HBB.out.size ht1 (fun i h => by rcases h with h | h <;> omega))
  clear hx1 hm1 ht1 HRUN HX0 HM0 HBB HGQ
  go_wp2_with fail
  refine (HNM.out _).mono ?_
  rintro e w2 ⟨s, rfl, hs, hb2⟩
  have hx2 := (hb2.block _ (block_lt HX1.out)).trans HX1.out
  have hm2 := (hb2.block _ (block_lt HM1.out)).trans HM1.out
  have HB2 := Lib.hid (HB1.out.trans (hb2.mono HB1.out.size))
  have cx := fun j => cell_of_row w2 _ j _ _ _ hx2
  have cm := fun j => cell_of_row w2 _ j _ _ _ hm2
  have hs1 : (s.toList = []) = (q = false) := by rw [ByteArray.toList_eq]; exact propext hs
  have hs2 : s.toList.isEmpty = !q := by rw [Bool.eq_iff_iff, List.isEmpty_iff, hs1]; cases q <;> simp
  clear hb2 hx2 hm2 hs HX1 HM1
  cases q
  · go_wp2
    go_ret
    exact ⟨ret_bool (by rw [HFIN.out]; rfl), HB2.out⟩
  · cases G
    · go_wp2
      go_ret
      exact ⟨ret_bool (by rw [HFIN.out]; rfl), HB2.out⟩
    · go_wp2
      go_ret
      exact ⟨ret_bool (by rw [HFIN.out]; cases E <;> rfl), HB2.out⟩

set_option maxRecDepth 10000 in
set_option maxHeartbeats 4000000 in
theorem mayMailD_any (tk c d co fl dy va st ho nx : Int) (ht : U64 tk) (hva : I64 va) (w : World) :
    Calls Tryz.prog 38 #[.agg #[.int .i64 3, .int .u64 tk, .int .i64 c, .int .i64 d, .int .i64 co, .int .i64 fl, .int .i64 dy, .int .i64 va, .int .i64 st, .int .i64 ho, .int .u64 nx]] w fun e w' => e = .returned (.bool (Ltr.mailB 3 tk c d co fl dy va st ho nx)) ∧ Below w.heap.size w w' := by
  have hm0 := row_allocS (new_rowW w (.cells #[.int .i64 3, .int .u64 tk, .int .i64 c, .int .i64 d, .int .i64 co, .int .i64 fl, .int .i64 dy, .int .i64 va, .int .i64 st, .int .i64 ho, .int .u64 nx] 78 (0, 0)) _ rfl) (.cells #[.pointer none, .pointer none, .bool true, .pointer (some ⟨w.heap.size, 0, none⟩)] 146 (0, 0))
  have hx0 := new_rowW (w.alloc (.cells #[.int .i64 3, .int .u64 tk, .int .i64 c, .int .i64 d, .int .i64 co, .int .i64 fl, .int .i64 dy, .int .i64 va, .int .i64 st, .int .i64 ho, .int .u64 nx] 78 (0, 0))) (.cells #[.pointer none, .pointer none, .bool true, .pointer (some ⟨w.heap.size, 0, none⟩)] 146 (0, 0)) (w.heap.size + 1) (by simp)
  have HBB := Lib.hid (((Below.refl w.heap.size w).alloc (Nat.le_refl _) (.cells #[.int .i64 3, .int .u64 tk, .int .i64 c, .int .i64 d, .int .i64 co, .int .i64 fl, .int .i64 dy, .int .i64 va, .int .i64 st, .int .i64 ho, .int .u64 nx] 78 (0, 0))).alloc (by simp) (.cells #[.pointer none, .pointer none, .bool true, .pointer (some ⟨w.heap.size, 0, none⟩)] 146 (0, 0)))
  have HM0 := Lib.hid hm0; have HX0 := Lib.hid hx0
  have HRUN := Lib.hid (mrunD_any (w.heap.size + 1) w.heap.size true tk c d co fl dy va st ho nx _ HX0.out HM0.out (by omega) ht)
  have HNM := Lib.hid (fun W => mailName_any 3 W)
  have hE := fun (W : World) => eqM 3 0 0 d 0 fl dy va st ho nx 3 0 0 0 0 0 0 0 0 0 0 W
  have hG := guardM
  obtain ⟨q, hq⟩ : ∃ q, inB 1 5 3 = q := ⟨_, rfl⟩
  obtain ⟨G, hGq⟩ : ∃ G, (((true && Tkt.numB tk) && inB 1 4 c) && inB 1 17 co) = G := ⟨_, rfl⟩
  obtain ⟨E, hEq⟩ : ∃ E, Ltr.eqM 3 0 0 d 0 fl dy va st ho nx 3 0 0 0 0 0 0 0 0 0 0 = E := ⟨_, rfl⟩
  have HFIN : Hid (Ltr.mailB 3 tk c d co fl dy va st ho nx = (q && (G && E))) := Lib.hid (by
    rw [← hq, ← hGq, ← hEq]
    unfold Ltr.mailB Ltr.eqM
    try unfold Ltr.czB
    simp (config := { decide := false }) only [if_true, if_false, beq_self_eq_true, Bool.true_and]
    try simp only [show ((2 : Int) = 3) = False from by simp, if_false]
    try ac_rfl)
  rw [hEq] at hE
  rw [hq] at HNM
  have HGQ := Lib.hid hGq
  clear hm0 hx0 hq hEq hGq
  go_enter Tryz.func38, Tryz.ntmps38
  go_wp2_with fail
  refine HRUN.out.mono ?_
  rintro e w1 ⟨rfl, hx1, hm1, ht1⟩
  rw [HGQ.out] at hx1
  have HX1 := Lib.hid hx1; have HM1 := Lib.hid hm1
  have HB1 : Hid (Below w.heap.size w w1) := Lib.hid (Turn.below HBB.out HBB.out.size ht1 (fun i h => by rcases h with h | h <;> omega))
  clear hx1 hm1 ht1 HRUN HX0 HM0 HBB HGQ
  go_wp2_with fail
  refine (HNM.out _).mono ?_
  rintro e w2 ⟨s, rfl, hs, hb2⟩
  have hx2 := (hb2.block _ (block_lt HX1.out)).trans HX1.out
  have hm2 := (hb2.block _ (block_lt HM1.out)).trans HM1.out
  have HB2 := Lib.hid (HB1.out.trans (hb2.mono HB1.out.size))
  have cx := fun j => cell_of_row w2 _ j _ _ _ hx2
  have cm := fun j => cell_of_row w2 _ j _ _ _ hm2
  have hs1 : (s.toList = []) = (q = false) := by rw [ByteArray.toList_eq]; exact propext hs
  have hs2 : s.toList.isEmpty = !q := by rw [Bool.eq_iff_iff, List.isEmpty_iff, hs1]; cases q <;> simp
  clear hb2 hx2 hm2 hs HX1 HM1
  cases q
  · go_wp2
    go_ret
    exact ⟨ret_bool (by rw [HFIN.out]; rfl), HB2.out⟩
  · cases G
    · go_wp2
      go_ret
      exact ⟨ret_bool (by rw [HFIN.out]; rfl), HB2.out⟩
    · go_wp2
      go_ret
      exact ⟨ret_bool (by rw [HFIN.out]; cases E <;> rfl), HB2.out⟩

set_option maxRecDepth 10000 in
set_option maxHeartbeats 4000000 in
theorem mayMailG_any (tk c d co fl dy va st ho nx : Int) (ht : U64 tk) (hva : I64 va) (w : World) :
    Calls Tryz.prog 38 #[.agg #[.int .i64 2, .int .u64 tk, .int .i64 c, .int .i64 d, .int .i64 co, .int .i64 fl, .int .i64 dy, .int .i64 va, .int .i64 st, .int .i64 ho, .int .u64 nx]] w fun e w' => e = .returned (.bool (Ltr.mailB 2 tk c d co fl dy va st ho nx)) ∧ Below w.heap.size w w' := by
  have hm0 := row_allocS (new_rowW w (.cells #[.int .i64 2, .int .u64 tk, .int .i64 c, .int .i64 d, .int .i64 co, .int .i64 fl, .int .i64 dy, .int .i64 va, .int .i64 st, .int .i64 ho, .int .u64 nx] 78 (0, 0)) _ rfl) (.cells #[.pointer none, .pointer none, .bool true, .pointer (some ⟨w.heap.size, 0, none⟩)] 146 (0, 0))
  have hx0 := new_rowW (w.alloc (.cells #[.int .i64 2, .int .u64 tk, .int .i64 c, .int .i64 d, .int .i64 co, .int .i64 fl, .int .i64 dy, .int .i64 va, .int .i64 st, .int .i64 ho, .int .u64 nx] 78 (0, 0))) (.cells #[.pointer none, .pointer none, .bool true, .pointer (some ⟨w.heap.size, 0, none⟩)] 146 (0, 0)) (w.heap.size + 1) (by simp)
  have HBB := Lib.hid (((Below.refl w.heap.size w).alloc (Nat.le_refl _) (.cells #[.int .i64 2, .int .u64 tk, .int .i64 c, .int .i64 d, .int .i64 co, .int .i64 fl, .int .i64 dy, .int .i64 va, .int .i64 st, .int .i64 ho, .int .u64 nx] 78 (0, 0))).alloc (by simp) (.cells #[.pointer none, .pointer none, .bool true, .pointer (some ⟨w.heap.size, 0, none⟩)] 146 (0, 0)))
  have HM0 := Lib.hid hm0; have HX0 := Lib.hid hx0
  have HRUN := Lib.hid (mrunG_any (w.heap.size + 1) w.heap.size true tk c d co fl dy va st ho nx _ HX0.out HM0.out (by omega) ht hva)
  have HNM := Lib.hid (fun W => mailName_any 2 W)
  have hE := fun (W : World) => eqM 2 0 0 0 co 0 0 0 0 ho nx 2 0 0 0 0 0 0 0 0 0 0 W
  have hG := guardM
  obtain ⟨q, hq⟩ : ∃ q, inB 1 5 2 = q := ⟨_, rfl⟩
  obtain ⟨G, hGq⟩ : ∃ G, (((((true && Tkt.numB tk) && inB 1 4 c) && inB 0 1000000 d) && flyB fl dy va) && st == 1) = G := ⟨_, rfl⟩
  obtain ⟨E, hEq⟩ : ∃ E, Ltr.eqM 2 0 0 0 co 0 0 0 0 ho nx 2 0 0 0 0 0 0 0 0 0 0 = E := ⟨_, rfl⟩
  have HFIN : Hid (Ltr.mailB 2 tk c d co fl dy va st ho nx = (q && (G && E))) := Lib.hid (by
    rw [← hq, ← hGq, ← hEq]
    unfold Ltr.mailB Ltr.eqM
    try unfold Ltr.czB
    simp (config := { decide := false }) only [if_true, if_false, beq_self_eq_true, Bool.true_and]
    try simp only [show ((2 : Int) = 3) = False from by simp, if_false]
    try ac_rfl)
  rw [hEq] at hE
  rw [hq] at HNM
  have HGQ := Lib.hid hGq
  clear hm0 hx0 hq hEq hGq
  go_enter Tryz.func38, Tryz.ntmps38
  go_wp2_with fail
  refine HRUN.out.mono ?_
  rintro e w1 ⟨rfl, hx1, hm1, ht1⟩
  rw [HGQ.out] at hx1
  have HX1 := Lib.hid hx1; have HM1 := Lib.hid hm1
  have HB1 : Hid (Below w.heap.size w w1) := Lib.hid (Turn.below HBB.out HBB.out.size ht1 (fun i h => by rcases h with h | h <;> omega))
  clear hx1 hm1 ht1 HRUN HX0 HM0 HBB HGQ
  go_wp2_with fail
  refine (HNM.out _).mono ?_
  rintro e w2 ⟨s, rfl, hs, hb2⟩
  have hx2 := (hb2.block _ (block_lt HX1.out)).trans HX1.out
  have hm2 := (hb2.block _ (block_lt HM1.out)).trans HM1.out
  have HB2 := Lib.hid (HB1.out.trans (hb2.mono HB1.out.size))
  have cx := fun j => cell_of_row w2 _ j _ _ _ hx2
  have cm := fun j => cell_of_row w2 _ j _ _ _ hm2
  have hs1 : (s.toList = []) = (q = false) := by rw [ByteArray.toList_eq]; exact propext hs
  have hs2 : s.toList.isEmpty = !q := by rw [Bool.eq_iff_iff, List.isEmpty_iff, hs1]; cases q <;> simp
  clear hb2 hx2 hm2 hs HX1 HM1
  cases q
  · go_wp2
    go_ret
    exact ⟨ret_bool (by rw [HFIN.out]; rfl), HB2.out⟩
  · cases G
    · go_wp2
      go_ret
      exact ⟨ret_bool (by rw [HFIN.out]; rfl), HB2.out⟩
    · go_wp2
      go_ret
      exact ⟨ret_bool (by rw [HFIN.out]; cases E <;> rfl), HB2.out⟩
end Go.Proofs.YtbmphlpmipkpcaaGreat
end

section
set_option linter.unusedVariables false
set_option linter.unusedSimpArgs false
namespace Go.Proofs.YtbmphlpmipkpcaaGreat
open Go.RowKit

theorem eqC0 (fl dy va st ho nx : Int) (w : World) : (binOp .eql 33 (.agg #[.int .i64 fl, .int .i64 dy, .int .i64 va, .int .i64 st, .int .i64 ho, .int .u64 nx]) (.agg #[.int .i64 0, .int .i64 0, .int .i64 0, .int .i64 0, .int .i64 0, .int .u64 0])).run Tryz.prog w = .ok (.bool (Ltr.czB fl dy va st ho nx)) w := by
  rw [run_eql_struct, eqInC]
  rfl
theorem guardC (x y : Operand) (xs ys : Array Value) (w : World) : (eqGuard .eql 33 x y (.agg xs) (.agg ys)).run Tryz.prog w = .ok () w := run_eqGuard_agg w _ _ _ _ _ _ (by kernel_rfl)

theorem rday16_any (n : Int) (w : World) : Calls Tryz.prog 83 #[.int .i64 n] w fun e w' => e = .returned (.bool (inB 0 1000000 n)) ∧ w = w' := by
  go_enter Tryz.func83, Tryz.ntmps83
  go_wp2
  all_goals
    go_ret
    refine ⟨ret_bool ?_, rfl⟩
    unfold inB
    simp; omega
theorem rsome16_any (n : Int) (w : World) : Calls Tryz.prog 126 #[.int .i64 n] w fun e w' => e = .returned (.bool (inB 0 1000000000000 n)) ∧ w = w' := by
  go_enter Tryz.func126, Tryz.ntmps126
  go_wp2
  all_goals
    go_ret
    refine ⟨ret_bool ?_, rfl⟩
    unfold inB
    simp; omega
theorem numbered13_any (n : Int) (hn : U64 n) (w : World) : Calls Tryz.prog 82 #[.int .u64 n] w fun e w' => e = .returned (.bool (Tkt.numB n)) ∧ Below w.heap.size w w' := by
  have HK := Lib.hid (rCheck_any n hn.1 hn.2 w)
  have HQ : Hid (Tkt.numB n = decide (Num.check n = 0)) := Lib.hid rfl
  generalize Tkt.numB n = q at *
  generalize Num.check n = ck at *
  go_enter Tryz.func82, Tryz.ntmps82
  go_wp2_with fail
  refine HK.out.mono ?_
  rintro e w1 ⟨rfl, hb⟩
  have HB := Lib.hid hb
  clear hb
  go_wp2
  all_goals
    go_ret
    exact ⟨ret_bool (by rw [HQ.out]; first | rfl | simp), HB.out⟩

set_option maxHeartbeats 1000000 in
theorem rplain_any (fl dy va st ho nx s : Int) (w : World) : Calls Tryz.prog 84 #[.agg #[.int .i64 fl, .int .i64 dy, .int .i64 va, .int .i64 st, .int .i64 ho, .int .u64 nx], .int .i64 s] w fun e w' => e = .returned (.bool (flyB fl dy va && (st == s && (ho == 0 && nx == 0)))) ∧ Below w.heap.size w w' := by
  have HB := Lib.hid ((Below.refl w.heap.size w).alloc (Nat.le_refl _) (.cells #[.int .i64 fl, .int .i64 dy, .int .i64 va, .int .i64 st, .int .i64 ho, .int .u64 nx] 33 (0, 0)))
  have HFIN : Hid ((flyB fl dy va && (st == s && (ho == 0 && nx == 0))) = _) := Lib.hid (by unfold flyB; rfl)
  have HD := Lib.hid (fun W => rday16_any dy W)
  have HS := Lib.hid (fun W => rsome16_any va W)
  generalize inB 0 1000000 dy = D at *
  generalize inB 0 1000000000000 va = S at *
  unfold inB at HFIN
  go_enter Tryz.func84, Tryz.ntmps84
  go_wp2_with (first | (go_at_call 83; refine (HD.out _).mono ?_; rintro e w' ⟨rfl, rfl⟩) | (go_at_call 126; refine (HS.out _).mono ?_; rintro e w' ⟨rfl, rfl⟩))
  all_goals
    go_ret
    refine ⟨ret_bool ?_, by first | exact HB.out | exact (Below.refl _ _).alloc (Nat.le_refl _) _⟩
    rw [HFIN.out, Bool.eq_iff_iff]
    try clear HFIN HB hc
    simp_all
    try omega

set_option maxRecDepth 10000 in
set_option maxHeartbeats 4000000 in
theorem rMayMailD_any (tk c d co fl dy va st ho nx : Int) (ht : U64 tk) (w : World) :
    Calls Tryz.prog 37 #[.agg #[.int .i64 3, .int .u64 tk, .int .i64 c, .int .i64 d, .int .i64 co, .int .i64 fl, .int .i64 dy, .int .i64 va, .int .i64 st, .int .i64 ho, .int .u64 nx]] w fun e w' => e = .returned (.bool (Ltr.mailB 3 tk c d co fl dy va st ho nx)) ∧ Below w.heap.size w w' := by
  have HB := Lib.hid ((Below.refl w.heap.size w).alloc (Nat.le_refl _) (.cells #[.int .i64 3, .int .u64 tk, .int .i64 c, .int .i64 d, .int .i64 co, .int .i64 fl, .int .i64 dy, .int .i64 va, .int .i64 st, .int .i64 ho, .int .u64 nx] 78 (0, 0)))
  have HR := Lib.hid (new_rowW w (.cells #[.int .i64 3, .int .u64 tk, .int .i64 c, .int .i64 d, .int .i64 co, .int .i64 fl, .int .i64 dy, .int .i64 va, .int .i64 st, .int .i64 ho, .int .u64 nx] 78 (0, 0)) _ rfl)
  have hc := fun j => cell_of_row _ w.heap.size j _ _ _ HR.out
  have hG := guardC
  have HN := Lib.hid (fun W => numbered13_any tk ht W)
  have HD := Lib.hid (fun W => rday16_any d W)
  have HPL := Lib.hid (fun W => rplain_any fl dy va st ho nx 1 W)
  have HFIN : Hid (Ltr.mailB 3 tk c d co fl dy va st ho nx = _) := Lib.hid (by unfold Ltr.mailB; rfl)
  simp (config := { decide := false }) only [if_true, if_false] at HFIN
  try simp only [show ((2 : Int) = 3) = False from by simp, if_false] at HFIN
  generalize inB 0 1000000 d = Dq at *
  unfold inB at HFIN
  generalize Tkt.numB tk = N at *
  have hE0 := fun W => eqC0 fl dy va st ho nx W
  generalize Ltr.czB fl dy va st ho nx = Z at *
  go_enter Tryz.func37, Tryz.ntmps37
  go_wp2_with (first | (go_at_call 82; refine (HN.out _).mono ?_; rintro e wn ⟨rfl, hbn⟩; have HB := Lib.hid (HB.out.trans (hbn.mono HB.out.size)); have HR := Lib.hid ((hbn.block _ (block_lt HR.out)).trans HR.out); have hc := fun j => cell_of_row _ w.heap.size j _ _ _ HR.out; clear hbn) | (go_at_call 83; refine (HD.out _).mono ?_; rintro e w' ⟨rfl, rfl⟩) | (go_at_call 84; refine (HPL.out _).mono ?_; rintro e wn ⟨rfl, hbn⟩; have HB := Lib.hid (HB.out.trans (hbn.mono HB.out.size)); have HR := Lib.hid ((hbn.block _ (block_lt HR.out)).trans HR.out); have hc := fun j => cell_of_row _ w.heap.size j _ _ _ HR.out; clear hbn))
  all_goals
    go_ret
    refine ⟨ret_bool ?_, by first | exact HB.out | exact (Below.refl _ _).alloc (Nat.le_refl _) _⟩
    rw [HFIN.out, Bool.eq_iff_iff]
    try clear HFIN HB hc
    simp_all
    try omega

set_option maxRecDepth 10000 in
set_option maxHeartbeats 4000000 in
theorem rMayMailG_any (tk c d co fl dy va st ho nx : Int) (ht : U64 tk) (w : World) :
    Calls Tryz.prog 37 #[.agg #[.int .i64 2, .int .u64 tk, .int .i64 c, .int .i64 d, .int .i64 co, .int .i64 fl, .int .i64 dy, .int .i64 va, .int .i64 st, .int .i64 ho, .int .u64 nx]] w fun e w' => e = .returned (.bool (Ltr.mailB 2 tk c d co fl dy va st ho nx)) ∧ Below w.heap.size w w' := by
  have HB := Lib.hid ((Below.refl w.heap.size w).alloc (Nat.le_refl _) (.cells #[.int .i64 2, .int .u64 tk, .int .i64 c, .int .i64 d, .int .i64 co, .int .i64 fl, .int .i64 dy, .int .i64 va, .int .i64 st, .int .i64 ho, .int .u64 nx] 78 (0, 0)))
  have HR := Lib.hid (new_rowW w (.cells #[.int .i64 2, .int .u64 tk, .int .i64 c, .int .i64 d, .int .i64 co, .int .i64 fl, .int .i64 dy, .int .i64 va, .int .i64 st, .int .i64 ho, .int .u64 nx] 78 (0, 0)) _ rfl)
  have hc := fun j => cell_of_row _ w.heap.size j _ _ _ HR.out
  have hG := guardC
  have HN := Lib.hid (fun W => numbered13_any tk ht W)
  have HD := Lib.hid (fun W => rday16_any d W)
  have HPL := Lib.hid (fun W => rplain_any fl dy va st ho nx 1 W)
  have HFIN : Hid (Ltr.mailB 2 tk c d co fl dy va st ho nx = _) := Lib.hid (by unfold Ltr.mailB; rfl)
  simp (config := { decide := false }) only [if_true, if_false] at HFIN
  try simp only [show ((2 : Int) = 3) = False from by simp, if_false] at HFIN
  generalize inB 0 1000000 d = Dq at *
  unfold inB at HFIN
  generalize Tkt.numB tk = N at *
  generalize hpl : (flyB fl dy va && (st == 1 && (ho == 0 && nx == 0))) = PL at *
  clear hpl
  go_enter Tryz.func37, Tryz.ntmps37
  go_wp2_with (first | (go_at_call 82; refine (HN.out _).mono ?_; rintro e wn ⟨rfl, hbn⟩; have HB := Lib.hid (HB.out.trans (hbn.mono HB.out.size)); have HR := Lib.hid ((hbn.block _ (block_lt HR.out)).trans HR.out); have hc := fun j => cell_of_row _ w.heap.size j _ _ _ HR.out; clear hbn) | (go_at_call 83; refine (HD.out _).mono ?_; rintro e w' ⟨rfl, rfl⟩) | (go_at_call 84; refine (HPL.out _).mono ?_; rintro e wn ⟨rfl, hbn⟩; have HB := Lib.hid (HB.out.trans (hbn.mono HB.out.size)); have HR := Lib.hid ((hbn.block _ (block_lt HR.out)).trans HR.out); have hc := fun j => cell_of_row _ w.heap.size j _ _ _ HR.out; clear hbn))
  all_goals
    go_ret
    refine ⟨ret_bool ?_, by first | exact HB.out | exact (Below.refl _ _).alloc (Nat.le_refl _) _⟩
    rw [HFIN.out, Bool.eq_iff_iff]
    try clear HFIN HB hc
    simp_all
    try omega

set_option maxRecDepth 10000 in
set_option maxHeartbeats 4000000 in
theorem rMayMailO_any (k tk c d co fl dy va st ho nx : Int) (ht : U64 tk) (h3 : ¬ k = 3) (h2 : ¬ k = 2) (w : World) :
    Calls Tryz.prog 37 #[.agg #[.int .i64 k, .int .u64 tk, .int .i64 c, .int .i64 d, .int .i64 co, .int .i64 fl, .int .i64 dy, .int .i64 va, .int .i64 st, .int .i64 ho, .int .u64 nx]] w fun e w' => e = .returned (.bool (Ltr.mailB k tk c d co fl dy va st ho nx)) ∧ Below w.heap.size w w' := by
  have HB := Lib.hid ((Below.refl w.heap.size w).alloc (Nat.le_refl _) (.cells #[.int .i64 k, .int .u64 tk, .int .i64 c, .int .i64 d, .int .i64 co, .int .i64 fl, .int .i64 dy, .int .i64 va, .int .i64 st, .int .i64 ho, .int .u64 nx] 78 (0, 0)))
  have HR := Lib.hid (new_rowW w (.cells #[.int .i64 k, .int .u64 tk, .int .i64 c, .int .i64 d, .int .i64 co, .int .i64 fl, .int .i64 dy, .int .i64 va, .int .i64 st, .int .i64 ho, .int .u64 nx] 78 (0, 0)) _ rfl)
  have hc := fun j => cell_of_row _ w.heap.size j _ _ _ HR.out
  have hG := guardC
  have HN := Lib.hid (fun W => numbered13_any tk ht W)
  have HD := Lib.hid (fun W => rday16_any d W)
  have HPL := Lib.hid (fun W => rplain_any fl dy va st ho nx 1 W)
  have HFIN : Hid (Ltr.mailB k tk c d co fl dy va st ho nx = _) := Lib.hid (by unfold Ltr.mailB; rfl)
  simp (config := { decide := false }) only [if_neg h3, if_neg h2, if_true, if_false] at HFIN
  try simp only [show ((2 : Int) = 3) = False from by simp, if_false] at HFIN
  generalize inB 0 1000000 d = Dq at *
  unfold inB at HFIN
  generalize Tkt.numB tk = N at *
  have hE0 := fun W => eqC0 fl dy va st ho nx W
  generalize Ltr.czB fl dy va st ho nx = Z at *
  go_enter Tryz.func37, Tryz.ntmps37
  go_wp2_with (first | (go_at_call 82; refine (HN.out _).mono ?_; rintro e wn ⟨rfl, hbn⟩; have HB := Lib.hid (HB.out.trans (hbn.mono HB.out.size)); have HR := Lib.hid ((hbn.block _ (block_lt HR.out)).trans HR.out); have hc := fun j => cell_of_row _ w.heap.size j _ _ _ HR.out; clear hbn) | (go_at_call 83; refine (HD.out _).mono ?_; rintro e w' ⟨rfl, rfl⟩) | (go_at_call 84; refine (HPL.out _).mono ?_; rintro e wn ⟨rfl, hbn⟩; have HB := Lib.hid (HB.out.trans (hbn.mono HB.out.size)); have HR := Lib.hid ((hbn.block _ (block_lt HR.out)).trans HR.out); have hc := fun j => cell_of_row _ w.heap.size j _ _ _ HR.out; clear hbn))
  all_goals
    go_ret
    refine ⟨ret_bool ?_, by first | exact HB.out | exact (Below.refl _ _).alloc (Nat.le_refl _) _⟩
    rw [HFIN.out, Bool.eq_iff_iff]
    try clear HFIN HB hc
    simp_all
    try omega

theorem rMayMail_any (k tk c d co fl dy va st ho nx : Int) (ht : U64 tk) (w : World) :
    Calls Tryz.prog 37 #[.agg #[.int .i64 k, .int .u64 tk, .int .i64 c, .int .i64 d, .int .i64 co, .int .i64 fl, .int .i64 dy, .int .i64 va, .int .i64 st, .int .i64 ho, .int .u64 nx]] w fun e w' => e = .returned (.bool (Ltr.mailB k tk c d co fl dy va st ho nx)) ∧ Below w.heap.size w w' := by
  by_cases h3 : k = 3
  · subst h3; exact rMayMailD_any tk c d co fl dy va st ho nx ht w
  · by_cases h2 : k = 2
    · subst h2; exact rMayMailG_any tk c d co fl dy va st ho nx ht w
    · exact rMayMailO_any k tk c d co fl dy va st ho nx ht h3 h2 w
theorem mayMail_any (k tk c d co fl dy va st ho nx : Int) (ht : U64 tk) (hva : I64 va) (w : World) :
    Calls Tryz.prog 38 #[.agg #[.int .i64 k, .int .u64 tk, .int .i64 c, .int .i64 d, .int .i64 co, .int .i64 fl, .int .i64 dy, .int .i64 va, .int .i64 st, .int .i64 ho, .int .u64 nx]] w fun e w' => e = .returned (.bool (Ltr.mailB k tk c d co fl dy va st ho nx)) ∧ Below w.heap.size w w' := by
  by_cases h3 : k = 3
  · subst h3; exact mayMailD_any tk c d co fl dy va st ho nx ht hva w
  · by_cases h2 : k = 2
    · subst h2; exact mayMailG_any tk c d co fl dy va st ho nx ht hva w
    · exact mayMailO_any k tk c d co fl dy va st ho nx ht hva h3 h2 w
end Go.Proofs.YtbmphlpmipkpcaaGreat
end
