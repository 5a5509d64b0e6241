/- Contract: the letter of bytes, by the reference (couponref20.Of). -/
import Derived.Test.YtellhmbebimenaaDoorLr48
import Derived.Test.YtellhmbebimenaaDoorLr43

set_option linter.unusedVariables false
set_option linter.unusedSimpArgs false
namespace Go.Proofs.YtellhmbebimenaaDoor
open Go.RowKit

theorem numS_two (T D : List UInt8) (k : Nat) (hk : k = 1 ∨ k = 2 ∨ k = 4 ∨ k = 8) (h : k ≤ T.length) : rNumS (some (T ++ D)) (k : Int) = some (T.drop k ++ D) ∧ rNumS (some T) (k : Int) = some (T.drop k) ∧ rNumV (some (T ++ D)) (k : Int) = rNumV (some T) (k : Int) := by
  have hl : (T.take k).length = k := by rw [List.length_take]; omega
  have h1 := numS_app (T.take k) (T.drop k ++ D) k hk hl
  have h2 := numS_app (T.take k) (T.drop k) k hk hl
  rw [← List.append_assoc, List.take_append_drop] at h1
  rw [List.take_append_drop] at h2
  exact ⟨h1.1, h2.1, h1.2.trans h2.2.symm⟩
theorem numS_len {st : Option (List UInt8)} {k : Nat} {r : List UInt8} (h : rNumS st (k : Int) = some r) : ∃ l, st = some l ∧ l.length = k + r.length := by
  unfold rNumS at h
  split at h
  · unfold rRest at h
    cases st with
    | none => cases h
    | some l =>
      simp only at h
      split at h
      · injection h with h
        refine ⟨l, rfl, ?_⟩
        rw [← h, List.length_drop, Int.toNat_natCast]
        omega
      · cases h
  · cases h
theorem noCut (b : List UInt8) : (20 ≤ b.length ∧ rNumS (rNumS (rNumS (rNumS (some b) 2) 2) 8) 8 = some (b.drop 20) ∧ lS4 b = some [] ∧ rNumV (some (b.take 20)) 2 = rNumV (some b) 2 ∧ rNumV (lS1 b) 2 = rNumV (rNumS (some b) 2) 2 ∧ lNum b = rNumV (rNumS (rNumS (some b) 2) 2) 8 ∧ rNumV (lS3 b) 8 = rNumV (rNumS (rNumS (rNumS (some b) 2) 2) 8) 8)
    ∨ (b.length < 20 ∧ rNumS (rNumS (rNumS (rNumS (some b) 2) 2) 8) 8 = none ∧ lS4 b = none) := by
  by_cases hl : 20 ≤ b.length
  · refine .inl ⟨hl, ?_⟩
    have eb : b = b.take 20 ++ b.drop 20 := (List.take_append_drop 20 b).symm
    have hT : (b.take 20).length = 20 := by rw [List.length_take]; omega
    unfold lNum lS4 lS3 lS2 lS1
    generalize b.take 20 = T at *
    generalize b.drop 20 = D at *
    subst eb
    obtain ⟨a1, a2, a3⟩ := numS_two T D 2 (by decide) (by omega)
    obtain ⟨b1, b2, b3⟩ := numS_two (T.drop 2) D 2 (by decide) (by rw [List.length_drop]; omega)
    obtain ⟨c1, c2, c3⟩ := numS_two ((T.drop 2).drop 2) D 8 (by decide) (by rw [List.length_drop, List.length_drop]; omega)
    obtain ⟨d1, d2, d3⟩ := numS_two (((T.drop 2).drop 2).drop 8) D 8 (by decide) (by rw [List.length_drop, List.length_drop, List.length_drop]; omega)
    have e0 : (((T.drop 2).drop 2).drop 8).drop 8 = [] := by rw [List.drop_eq_nil_iff]; simp only [List.length_drop]; omega
    rw [e0] at d1 d2
    have t2 : ((2 : Nat) : Int) = 2 := rfl
    have t8 : ((8 : Nat) : Int) = 8 := rfl
    rw [t2] at a1 a2 a3 b1 b2 b3
    rw [t8] at c1 c2 c3 d1 d2 d3
    rw [a1, a2, b1, b2, c1, c2, d1, d2, a3, b3, c3, d3]
    exact ⟨rfl, rfl, rfl, rfl, rfl, rfl⟩
  · have hb : b.take 20 = b := List.take_of_length_le (by omega)
    have hn : rNumS (rNumS (rNumS (rNumS (some b) 2) 2) 8) 8 = none := by
      cases h : rNumS (rNumS (rNumS (rNumS (some b) 2) 2) 8) 8 with
      | none => rfl
      | some r =>
        obtain ⟨l3, h3, e3⟩ := numS_len (k := 8) h
        obtain ⟨l2, h2, e2⟩ := numS_len (k := 8) h3
        obtain ⟨l1, h1, e1⟩ := numS_len (k := 2) h2
        obtain ⟨l0, h0, e0⟩ := numS_len (k := 2) h1
        injection h0 with h0
        subst h0
        omega
    refine .inr ⟨by omega, hn, ?_⟩
    unfold lS4 lS3 lS2 lS1
    rw [hb]
    exact hn
attribute [local go_sem ↓] ml_execStore lt_execLoad lt_execStore

attribute [local go_sem] ml_store lt_load lt_store loL_drew okL_drew

set_option maxRecDepth 8000 in
set_option maxHeartbeats 8000000 in
theorem rOf20_any (v : Value) (b : List UInt8) (w : World) (hv : BS w v b) :
    Calls Tryd.prog 21 #[v] w fun e w' => e = .returned (.tuple #[.agg (lOf b).arr, .bool (okL20 b)]) ∧ Below w.heap.size w w' := by
  have HNC := Lib.hid (noCut b)
  obtain ⟨S1, hS1⟩ : ∃ s, rNumS (some b) 2 = s := ⟨_, rfl⟩
  obtain ⟨S2, hS2⟩ : ∃ s, rNumS S1 2 = s := ⟨_, rfl⟩
  obtain ⟨S3, hS3⟩ : ∃ s, rNumS S2 8 = s := ⟨_, rfl⟩
  obtain ⟨S4, hS4⟩ : ∃ s, rNumS S3 8 = s := ⟨_, rfl⟩
  rw [hS1, hS2, hS3, hS4] at HNC
  have l1 : rNumV (some b) 2 < 256 ^ 2 := rNumV_lt (some b) 2
  have l2 : rNumV S1 2 < 256 ^ 2 := rNumV_lt S1 2
  have l3 : rNumV S2 8 < 256 ^ 8 := rNumV_lt S2 8
  have l4 : rNumV S3 8 < 256 ^ 8 := rNumV_lt S3 8
  have HN1 := Lib.hid (fun W hW => cTake_any w.heap.size (w.heap.size + 1) (some b) 2 W hW)
  have HN2 := Lib.hid (fun W hW => cTake_any w.heap.size (w.heap.size + 1) S1 2 W hW)
  have HN3 := Lib.hid (fun W hW => cTake_any w.heap.size (w.heap.size + 1) S2 8 W hW)
  have HN4 := Lib.hid (fun W hW => cTake_any w.heap.size (w.heap.size + 1) S3 8 W hW)
  rw [hS1] at HN1
  rw [hS2] at HN2
  rw [hS3] at HN3
  rw [hS4] at HN4
  obtain ⟨F, hF⟩ : ∃ n, rNumV (some b) 2 = n := ⟨_, rfl⟩
  obtain ⟨T, hT⟩ : ∃ n, rNumV S1 2 = n := ⟨_, rfl⟩
  obtain ⟨N, hN⟩ : ∃ n, rNumV S2 8 = n := ⟨_, rfl⟩
  obtain ⟨A, hA⟩ : ∃ n, rNumV S3 8 = n := ⟨_, rfl⟩
  rw [hF] at l1 HN1
  rw [hT] at l2 HN2
  rw [hN] at l3 HN3
  rw [hA] at l4 HN4
  rw [hF, hT, hN, hA] at HNC
  have m1 : F < 65536 := l1
  have m2 : T < 65536 := l2
  have m3 : N < 18446744073709551616 := l3
  have m4 : A < 18446744073709551616 := l4
  have HUN : Hid (U64 (N : Int)) := Lib.hid ⟨by omega, by omega⟩
  have HUA : Hid (U64 (A : Int)) := Lib.hid ⟨by omega, by omega⟩
  have z1 : IntKind.i64.wrap (F : Int) = (F : Int) := by rw [IntKind.wrap_i64]; omega
  have z2 : IntKind.i64.wrap (T : Int) = (T : Int) := by rw [IntKind.wrap_i64]; omega
  clear hS1 hS2 hS3 hS4 hF hT hN hA l1 l2 l3 l4 m1 m2 m3 m4
  obtain ⟨pv0, cv0, rfl, hc1, hc2, hc3⟩ := id hv
  have hb1 := (Below.refl w.heap.size w).alloc (Nat.le_refl _) (.cells #[.int .i64 0, .int .i64 0, .int .u64 0, .int .u64 0, .int .i64 0, .int .u64 0, .int .i64 0, .int .i64 0, .int .i64 0, .int .i64 0, .int .i64 0, .int .i64 0, .int .i64 0, .int .i64 0, .int .u64 0] 31)
  have hr1 := new_rowW w (.cells #[.int .i64 0, .int .i64 0, .int .u64 0, .int .u64 0, .int .i64 0, .int .u64 0, .int .i64 0, .int .i64 0, .int .i64 0, .int .i64 0, .int .i64 0, .int .i64 0, .int .i64 0, .int .i64 0, .int .u64 0] 31) _ rfl
  have hb2 := hb1.alloc hb1.size (.cells #[.slice pv0 b.length cv0, .bool false] 105)
  have hsz : (w.alloc (.cells #[.int .i64 0, .int .i64 0, .int .u64 0, .int .u64 0, .int .i64 0, .int .u64 0, .int .i64 0, .int .i64 0, .int .i64 0, .int .i64 0, .int .i64 0, .int .i64 0, .int .i64 0, .int .i64 0, .int .u64 0] 31)).heap.size = w.heap.size + 1 := by simp
  have hr2 := new_rowW (w.alloc (.cells #[.int .i64 0, .int .i64 0, .int .u64 0, .int .u64 0, .int .i64 0, .int .u64 0, .int .i64 0, .int .i64 0, .int .i64 0, .int .i64 0, .int .i64 0, .int .i64 0, .int .i64 0, .int .i64 0, .int .u64 0] 31)) (.cells #[.slice pv0 b.length cv0, .bool false] 105) _ rfl
  have hbb := (Below.refl (w.alloc (.cells #[.int .i64 0, .int .i64 0, .int .u64 0, .int .u64 0, .int .i64 0, .int .u64 0, .int .i64 0, .int .i64 0, .int .i64 0, .int .i64 0, .int .i64 0, .int .i64 0, .int .i64 0, .int .i64 0, .int .u64 0] 31)).heap.size (w.alloc (.cells #[.int .i64 0, .int .i64 0, .int .u64 0, .int .u64 0, .int .i64 0, .int .u64 0, .int .i64 0, .int .i64 0, .int .i64 0, .int .i64 0, .int .i64 0, .int .i64 0, .int .i64 0, .int .i64 0, .int .u64 0] 31))).alloc (Nat.le_refl _) (.cells #[.slice pv0 b.length cv0, .bool false] 105)
  have hr3 := (hbb.block _ (block_lt hr1)).trans hr1
  rw [hsz] at hr2
  have HC0 : Hid (IsC ((w.alloc (.cells #[.int .i64 0, .int .i64 0, .int .u64 0, .int .u64 0, .int .i64 0, .int .u64 0, .int .i64 0, .int .i64 0, .int .i64 0, .int .i64 0, .int .i64 0, .int .i64 0, .int .i64 0, .int .i64 0, .int .u64 0] 31)).alloc (.cells #[.slice pv0 b.length cv0, .bool false] 105)) w.heap.size (w.heap.size + 1) (some b)) := Lib.hid ⟨Nat.le_succ _, .slice pv0 b.length cv0, b, false, hr2, fun W hW => hv.below (hb2.trans hW), rfl⟩
  have HZ0 := Lib.hid hr3
  have HB0 := Lib.hid hb2
  clear hb1 hb2 hr1 hr2 hr3 hbb hsz hv hc1 hc2 hc3
  go_enter Tryd.func21, Tryd.ntmps21
  go_wp2_with fail
  generalize (w.alloc (.cells #[.int .i64 0, .int .i64 0, .int .u64 0, .int .u64 0, .int .i64 0, .int .u64 0, .int .i64 0, .int .i64 0, .int .i64 0, .int .i64 0, .int .i64 0, .int .i64 0, .int .i64 0, .int .i64 0, .int .u64 0] 31)).alloc (.cells #[.slice pv0 b.length cv0, .bool false] 105) = w0 at *
  refine (HN1.out _ HC0.out).mono ?_
  rintro e w1 ⟨rfl, hs1⟩
  have th8 := there_newT (w := w1) (zs := [.int .i64 0, .int .i64 0, .int .u64 0, .int .u64 0, .int .i64 0, .int .u64 0, .int .i64 0, .int .i64 0, .int .i64 0, .int .i64 0, .int .i64 0, .int .i64 0, .int .i64 0, .int .i64 0, .int .u64 0]) (e := 31) (n := 15) rfl
  have h8n : ([.int .i64 (F : Int), .int .i64 0, .int .u64 0, .int .u64 0, .int .i64 0, .int .u64 0, .int .i64 0, .int .i64 0, .int .i64 0, .int .i64 0, .int .i64 0, .int .i64 0, .int .i64 0, .int .i64 0, .int .u64 0] : List Value).length = 15 := rfl
  have h8c : ([.int .i64 (F : Int), .int .i64 0, .int .u64 0, .int .u64 0, .int .i64 0, .int .u64 0, .int .i64 0, .int .i64 0, .int .i64 0, .int .i64 0, .int .i64 0, .int .i64 0, .int .i64 0, .int .i64 0, .int .u64 0] : List Value).all (·.oneCell') = true := rfl
  have HZ1 := Lib.hid ((hs1.2.1.block _ (block_lt HZ0.out) (by omega)).trans HZ0.out)
  have HB1 := Lib.hid (Only.below HB0.out (Nat.le_succ _) HB0.out.size hs1.2.1)
  have HS1 := Lib.hid hs1
  clear hs1 HC0 HZ0 HB0
  go_upto_region 3 with fail
  have HP := Lib.hid (putRec (W := w1) (e := 31) (zs := [.int .i64 0, .int .i64 0, .int .u64 0, .int .u64 0, .int .i64 0, .int .u64 0, .int .i64 0, .int .i64 0, .int .i64 0, .int .i64 0, .int .i64 0, .int .i64 0, .int .i64 0, .int .i64 0, .int .u64 0]) (cs := [.int .i64 (F : Int), .int .i64 0, .int .u64 0, .int .u64 0, .int .i64 0, .int .u64 0, .int .i64 0, .int .i64 0, .int .i64 0, .int .i64 0, .int .i64 0, .int .i64 0, .int .i64 0, .int .i64 0, .int .u64 0]) rfl)
  have HF : Hid (CF 31 #[.int .i64 0, .int .i64 0, .int .u64 0, .int .u64 0, .int .i64 0, .int .u64 0, .int .i64 0, .int .i64 0, .int .i64 0, .int .i64 0, .int .i64 0, .int .i64 0, .int .i64 0, .int .i64 0, .int .u64 0] w.heap.size w ((w1.alloc (.cells ([.int .i64 0, .int .i64 0, .int .u64 0, .int .u64 0, .int .i64 0, .int .u64 0, .int .i64 0, .int .i64 0, .int .i64 0, .int .i64 0, .int .i64 0, .int .i64 0, .int .i64 0, .int .i64 0, .int .u64 0] : List Value).toArray 31 (0, 0))).setCells w1.heap.size 0 [.int .i64 (F : Int), .int .i64 0, .int .u64 0, .int .u64 0, .int .i64 0, .int .u64 0, .int .i64 0, .int .i64 0, .int .i64 0, .int .i64 0, .int .i64 0, .int .i64 0, .int .i64 0, .int .i64 0, .int .u64 0]) (w.heap.size + 1) w1.heap.size w.heap.size S1 #[.int .i64 (F : Int), .int .i64 0, .int .u64 0, .int .u64 0, .int .i64 0, .int .u64 0, .int .i64 0, .int .i64 0, .int .i64 0, .int .i64 0, .int .i64 0, .int .i64 0, .int .i64 0, .int .i64 0, .int .u64 0]) :=
    Lib.hid ⟨HS1.out.1.below HP.out.2, HP.out.1, (HP.out.2.block _ (block_lt HZ1.out)).trans HZ1.out, by have hz := HB1.out.trans (HP.out.2.mono HB1.out.size); exact ⟨hz.os, hz.tape, hz.output, hz.size, fun k hk _ => hz.block k hk⟩, by have := block_lt HZ1.out; omega, HB1.out.size, Nat.le_refl _, Nat.le_refl _, by decide⟩
  clear HP HS1 HZ1 HB1 th8 h8n h8c
  generalize (w1.alloc (.cells ([.int .i64 0, .int .i64 0, .int .u64 0, .int .u64 0, .int .i64 0, .int .u64 0, .int .i64 0, .int .i64 0, .int .i64 0, .int .i64 0, .int .i64 0, .int .i64 0, .int .i64 0, .int .i64 0, .int .u64 0] : List Value).toArray 31 (0, 0))).setCells w1.heap.size 0 [.int .i64 (F : Int), .int .i64 0, .int .u64 0, .int .u64 0, .int .i64 0, .int .u64 0, .int .i64 0, .int .i64 0, .int .i64 0, .int .i64 0, .int .i64 0, .int .i64 0, .int .i64 0, .int .i64 0, .int .u64 0] = w2 at *
  generalize w1.heap.size = gt at *
  go_wp2_with fail
  refine (HN2.out _ HF.out.c).mono ?_
  rintro e w3 ⟨rfl, hs⟩
  replace HF := Lib.hid (HF.out.step hs)
  clear hs
  have hcb := fun j => cell_of_row w3 gt j _ _ _ HF.out.t
  have hfb := fun j => frozen_of_row w3 gt j _ _ HF.out.t
  go_upto_region 4 with fail
  clear hcb hfb
  replace HF := Lib.hid (HF.out.set 1 (.int .i64 (T : Int)))
  generalize w3.setCell ⟨gt, 1, none⟩ (.int .i64 (T : Int)) = w4 at *
  replace HF : Hid (CF 31 #[.int .i64 0, .int .i64 0, .int .u64 0, .int .u64 0, .int .i64 0, .int .u64 0, .int .i64 0, .int .i64 0, .int .i64 0, .int .i64 0, .int .i64 0, .int .i64 0, .int .i64 0, .int .i64 0, .int .u64 0] w.heap.size w w4 (w.heap.size + 1) gt w.heap.size S2 #[.int .i64 (F : Int), .int .i64 (T : Int), .int .u64 0, .int .u64 0, .int .i64 0, .int .u64 0, .int .i64 0, .int .i64 0, .int .i64 0, .int .i64 0, .int .i64 0, .int .i64 0, .int .i64 0, .int .i64 0, .int .u64 0]) := Lib.hid HF.out
  go_wp2_with fail
  refine (HN3.out _ HF.out.c).mono ?_
  rintro e w5 ⟨rfl, hs⟩
  replace HF := Lib.hid (HF.out.step hs)
  clear hs
  have hcb := fun j => cell_of_row w5 gt j _ _ _ HF.out.t
  have hfb := fun j => frozen_of_row w5 gt j _ _ HF.out.t
  go_upto_region 5 with fail
  clear hcb hfb
  replace HF := Lib.hid (HF.out.set 2 (.int .u64 (N : Int)))
  generalize w5.setCell ⟨gt, 2, none⟩ (.int .u64 (N : Int)) = w6 at *
  replace HF : Hid (CF 31 #[.int .i64 0, .int .i64 0, .int .u64 0, .int .u64 0, .int .i64 0, .int .u64 0, .int .i64 0, .int .i64 0, .int .i64 0, .int .i64 0, .int .i64 0, .int .i64 0, .int .i64 0, .int .i64 0, .int .u64 0] w.heap.size w w6 (w.heap.size + 1) gt w.heap.size S3 #[.int .i64 (F : Int), .int .i64 (T : Int), .int .u64 (N : Int), .int .u64 0, .int .i64 0, .int .u64 0, .int .i64 0, .int .i64 0, .int .i64 0, .int .i64 0, .int .i64 0, .int .i64 0, .int .i64 0, .int .i64 0, .int .u64 0]) := Lib.hid HF.out
  go_wp2_with fail
  refine (HN4.out _ HF.out.c).mono ?_
  rintro e w7 ⟨rfl, hs⟩
  replace HF := Lib.hid (HF.out.step hs)
  clear hs
  have hcb := fun j => cell_of_row w7 gt j _ _ _ HF.out.t
  have hfb := fun j => frozen_of_row w7 gt j _ _ HF.out.t
  go_upto_region 6 with fail
  clear hcb hfb
  replace HF := Lib.hid (HF.out.set 3 (.int .u64 (A : Int)))
  generalize w7.setCell ⟨gt, 3, none⟩ (.int .u64 (A : Int)) = w8 at *
  replace HF : Hid (CF 31 #[.int .i64 0, .int .i64 0, .int .u64 0, .int .u64 0, .int .i64 0, .int .u64 0, .int .i64 0, .int .i64 0, .int .i64 0, .int .i64 0, .int .i64 0, .int .i64 0, .int .i64 0, .int .i64 0, .int .u64 0] w.heap.size w w8 (w.heap.size + 1) gt w.heap.size S4 #[.int .i64 (F : Int), .int .i64 (T : Int), .int .u64 (N : Int), .int .u64 (A : Int), .int .i64 0, .int .u64 0, .int .i64 0, .int .i64 0, .int .i64 0, .int .i64 0, .int .i64 0, .int .i64 0, .int .i64 0, .int .i64 0, .int .u64 0]) := Lib.hid HF.out
  have hcb := fun j => cell_of_row w8 gt j _ _ _ HF.out.t
  obtain ⟨-, cv, cb, bad, hrow, hbs, hst⟩ := id HF.out.c
  have hv2 := hbs w8 (Below.refl _ _)
  have HVB := Lib.hid hv2
  obtain ⟨pv, cc, rfl, hlc, hlb, -⟩ := id hv2
  clear hv2
  have hlb2 : cb.length ≤ 9223372036854775807 := by unfold maxLen at hlb; omega
  have hcc := fun j => cell_of_row w8 (w.heap.size + 1) j _ _ _ hrow
  clear hrow hbs hlb hlc
  cases bad
  · obtain ⟨-, e4, eS, eF, eT, eN, eA⟩ : 20 ≤ b.length ∧ S4 = some (b.drop 20) ∧ lS4 b = some [] ∧ rNumV (some (b.take 20)) 2 = F ∧ rNumV (lS1 b) 2 = T ∧ lNum b = N ∧ rNumV (lS3 b) 8 = A := by
      rcases HNC.out with h | ⟨-, h, -⟩
      · exact h
      · rw [h] at hst; cases hst
    have ecb : cb = b.drop 20 := by rw [e4] at hst; exact (Option.some.inj hst).symm
    by_cases h0 : N = 0
    · subst h0
      have HLM : Hid (lMail b = zMl) := Lib.hid (by unfold lMail; rw [if_pos eN])
      by_cases hcb2 : cb = []
      · have HLG : Hid (lGet b = ⟨(F : Int), (T : Int), 0, (A : Int), 0, 0, 0, 0, 0, 0, 0, 0, 0, 0, 0⟩) := Lib.hid (by unfold lGet; rw [HLM.out, eF, eT, eN, eA]; rfl)
        have HMM := Lib.hid (fun W => rLmay_any (F : Int) (T : Int) 0 (A : Int) 0 0 0 0 0 0 0 0 0 0 0 ⟨by decide, by decide⟩ HUN.out HUA.out W)
        obtain ⟨mb, hmb⟩ : ∃ q, Ltr.mayB (F : Int) (T : Int) 0 (A : Int) 0 0 0 0 0 0 0 0 0 0 0 = q := ⟨_, rfl⟩
        rw [hmb] at HMM
        have HOK : Hid (okL20 b = mb) := Lib.hid (by unfold okL20 Lt.may; rw [eS, if_pos eN, HLG.out, ← hmb, ← ecb, hcb2]; simp)
        clear eF eT eN eA eS e4 hst ecb hmb hlb2
        subst hcb2
        rw [List.length_nil] at hcc
        obtain ⟨f1, f2⟩ := row_loT 15 HF.out.t rfl rfl
        go_wp2_with fail
        clear f1 f2 hcc hcb
        refine (HMM.out _).mono ?_
        rintro e wm ⟨rfl, hbm⟩
        replace HF := Lib.hid (HF.out.belowW hbm)
        clear hbm
        cases mb
        · have HOF : Hid (lOf b = zLt ∧ okL20 b = false) := Lib.hid ⟨by unfold lOf; rw [if_neg (by rw [HOK.out]; simp)], HOK.out⟩
          have th := there_rowT (n := 15) HF.out.z rfl
          have h1n : ([.int .i64 0, .int .i64 0, .int .u64 0, .int .u64 0, .int .i64 0, .int .u64 0, .int .i64 0, .int .i64 0, .int .i64 0, .int .i64 0, .int .i64 0, .int .i64 0, .int .i64 0, .int .i64 0, .int .u64 0] : List Value).length = 15 := rfl
          have h1c : ([.int .i64 0, .int .i64 0, .int .u64 0, .int .u64 0, .int .i64 0, .int .u64 0, .int .i64 0, .int .i64 0, .int .i64 0, .int .i64 0, .int .i64 0, .int .i64 0, .int .i64 0, .int .i64 0, .int .u64 0] : List Value).all (·.oneCell') = true := rfl
          go_wp2_with fail
          have hr6 := setCells_rowT (g := w.heap.size) (cs := [.int .i64 0, .int .i64 0, .int .u64 0, .int .u64 0, .int .i64 0, .int .u64 0, .int .i64 0, .int .i64 0, .int .i64 0, .int .i64 0, .int .i64 0, .int .i64 0, .int .i64 0, .int .i64 0, .int .u64 0]) HF.out.z rfl
          (try simp only [Exit.inBlock, Exit.then])
          refine bodyPost_ret (results_cellT2 rfl _ _ w.heap.size rfl (loadLt hr6 rfl)) rfl ?_
          rw [HOF.out.1, HOF.out.2]
          exact ⟨rfl, Only.below (HF.out.below (by omega)) (Nat.le_refl _) HF.out.b.size ((Only.refl w.heap.size _).setCells 0 _)⟩
        · have HOF : Hid (lOf b = ⟨(F : Int), (T : Int), 0, (A : Int), 0, 0, 0, 0, 0, 0, 0, 0, 0, 0, 0⟩ ∧ okL20 b = true) := Lib.hid ⟨by unfold lOf; rw [if_pos HOK.out, HLG.out], HOK.out⟩
          have th := there_rowT (n := 15) HF.out.z rfl
          have h1n : ([.int .i64 (F : Int), .int .i64 (T : Int), .int .u64 0, .int .u64 (A : Int), .int .i64 0, .int .u64 0, .int .i64 0, .int .i64 0, .int .i64 0, .int .i64 0, .int .i64 0, .int .i64 0, .int .i64 0, .int .i64 0, .int .u64 0] : List Value).length = 15 := rfl
          have h1c : ([.int .i64 (F : Int), .int .i64 (T : Int), .int .u64 0, .int .u64 (A : Int), .int .i64 0, .int .u64 0, .int .i64 0, .int .i64 0, .int .i64 0, .int .i64 0, .int .i64 0, .int .i64 0, .int .i64 0, .int .i64 0, .int .u64 0] : List Value).all (·.oneCell') = true := rfl
          obtain ⟨f1, f2⟩ := row_loT 15 HF.out.t rfl rfl
          go_wp2_with fail
          have hr6 := setCells_rowT (g := w.heap.size) (cs := [.int .i64 (F : Int), .int .i64 (T : Int), .int .u64 0, .int .u64 (A : Int), .int .i64 0, .int .u64 0, .int .i64 0, .int .i64 0, .int .i64 0, .int .i64 0, .int .i64 0, .int .i64 0, .int .i64 0, .int .i64 0, .int .u64 0]) HF.out.z rfl
          (try simp only [Exit.inBlock, Exit.then])
          refine bodyPost_ret (results_cellT2 rfl _ _ w.heap.size rfl (loadLt hr6 rfl)) rfl ?_
          rw [HOF.out.1, HOF.out.2]
          exact ⟨rfl, Only.below (HF.out.below (by omega)) (Nat.le_refl _) HF.out.b.size ((Only.refl w.heap.size _).setCells 0 _)⟩
      · have hgt : 0 < cb.length := List.length_pos_iff.2 hcb2
        have HOK : Hid (okL20 b = false) := Lib.hid (by unfold okL20; rw [eS, if_pos eN, ← ecb]; simp [hcb2])
        have HOF : Hid (lOf b = zLt ∧ okL20 b = false) := Lib.hid ⟨by unfold lOf; rw [if_neg (by rw [HOK.out]; simp)], HOK.out⟩
        clear eF eT eN eA eS e4 hst ecb hcb2
        generalize hcl : cb.length = cl at *
        clear hcl
        have th := there_rowT (n := 15) HF.out.z rfl
        have h1n : ([.int .i64 0, .int .i64 0, .int .u64 0, .int .u64 0, .int .i64 0, .int .u64 0, .int .i64 0, .int .i64 0, .int .i64 0, .int .i64 0, .int .i64 0, .int .i64 0, .int .i64 0, .int .i64 0, .int .u64 0] : List Value).length = 15 := rfl
        have h1c : ([.int .i64 0, .int .i64 0, .int .u64 0, .int .u64 0, .int .i64 0, .int .u64 0, .int .i64 0, .int .i64 0, .int .i64 0, .int .i64 0, .int .i64 0, .int .i64 0, .int .i64 0, .int .i64 0, .int .u64 0] : List Value).all (·.oneCell') = true := rfl
        go_wp2_with fail
        have hr6 := setCells_rowT (g := w.heap.size) (cs := [.int .i64 0, .int .i64 0, .int .u64 0, .int .u64 0, .int .i64 0, .int .u64 0, .int .i64 0, .int .i64 0, .int .i64 0, .int .i64 0, .int .i64 0, .int .i64 0, .int .i64 0, .int .i64 0, .int .u64 0]) HF.out.z rfl
        (try simp only [Exit.inBlock, Exit.then])
        refine bodyPost_ret (results_cellT2 rfl _ _ w.heap.size rfl (loadLt hr6 rfl)) rfl ?_
        rw [HOF.out.1, HOF.out.2]
        exact ⟨rfl, Only.below (HF.out.below (by omega)) (Nat.le_refl _) HF.out.b.size ((Only.refl w.heap.size _).setCells 0 _)⟩
    · have hgt : 0 < N := by omega
      have hgt2 : (0 : Int) < (N : Int) := by omega
      have HLM : Hid (lMail b = mOf cb) := Lib.hid (by unfold lMail; rw [if_neg (by rw [eN]; exact h0), ← ecb])
      have HMO := Lib.hid (rMailOf_any _ cb w8 HVB.out)
      have HMW := Lib.hid (mOf_wf cb)
      obtain ⟨M, hM⟩ : ∃ M, mOf cb = M := ⟨_, rfl⟩
      rw [hM] at HMO HLM HMW
      unfold Ml.arr at HMO
      obtain ⟨om, hom⟩ : ∃ q, okM cb = q := ⟨_, rfl⟩
      rw [hom] at HMO
      have HLG : Hid (lGet b = ⟨(F : Int), (T : Int), (N : Int), (A : Int), M.k, M.tk, M.c, M.d, M.co, M.fl, M.dy, M.va, M.st, M.ho, M.nx⟩) := Lib.hid (by unfold lGet; rw [HLM.out, eF, eT, eN, eA])
      have HOKD : Hid (okL20 b = (om && (lGet b).may)) := Lib.hid (by unfold okL20; rw [eS, if_neg (by rw [eN]; exact h0), ← ecb, hom]; simp)
      clear eF eT eN eA eS e4 hst ecb hM hom h0
      go_wp2_with fail
      clear hcc hcb hlb2
      refine HMO.out.mono ?_
      rintro e w9 ⟨rfl, hb9⟩
      replace HF := Lib.hid (HF.out.belowW hb9)
      clear hb9
      have tg : w9.there gt 4 11 := there_rowO HF.out.t rfl
      have h9n : ([.int .i64 M.k, .int .u64 M.tk, .int .i64 M.c, .int .i64 M.d, .int .i64 M.co, .int .i64 M.fl, .int .i64 M.dy, .int .i64 M.va, .int .i64 M.st, .int .i64 M.ho, .int .u64 M.nx] : List Value).length = 11 := rfl
      have h9c : ([.int .i64 M.k, .int .u64 M.tk, .int .i64 M.c, .int .i64 M.d, .int .i64 M.co, .int .i64 M.fl, .int .i64 M.dy, .int .i64 M.va, .int .i64 M.st, .int .i64 M.ho, .int .u64 M.nx] : List Value).all (·.oneCell') = true := rfl
      go_upto_region 10 with fail
      clear tg h9n h9c
      replace HF := Lib.hid (HF.out.put 4 [.int .i64 M.k, .int .u64 M.tk, .int .i64 M.c, .int .i64 M.d, .int .i64 M.co, .int .i64 M.fl, .int .i64 M.dy, .int .i64 M.va, .int .i64 M.st, .int .i64 M.ho, .int .u64 M.nx] (setCells_rowP [.int .i64 M.k, .int .u64 M.tk, .int .i64 M.c, .int .i64 M.d, .int .i64 M.co, .int .i64 M.fl, .int .i64 M.dy, .int .i64 M.va, .int .i64 M.st, .int .i64 M.ho, .int .u64 M.nx] [.int .i64 (F : Int), .int .i64 (T : Int), .int .u64 (N : Int), .int .u64 (A : Int)] [.int .i64 0, .int .u64 0, .int .i64 0, .int .i64 0, .int .i64 0, .int .i64 0, .int .i64 0, .int .i64 0, .int .i64 0, .int .i64 0, .int .u64 0] w9 HF.out.t rfl))
      generalize w9.setCells gt 4 [.int .i64 M.k, .int .u64 M.tk, .int .i64 M.c, .int .i64 M.d, .int .i64 M.co, .int .i64 M.fl, .int .i64 M.dy, .int .i64 M.va, .int .i64 M.st, .int .i64 M.ho, .int .u64 M.nx] = w10 at *
      replace HF : Hid (CF 31 #[.int .i64 0, .int .i64 0, .int .u64 0, .int .u64 0, .int .i64 0, .int .u64 0, .int .i64 0, .int .i64 0, .int .i64 0, .int .i64 0, .int .i64 0, .int .i64 0, .int .i64 0, .int .i64 0, .int .u64 0] w.heap.size w w10 (w.heap.size + 1) gt w.heap.size S4 #[.int .i64 (F : Int), .int .i64 (T : Int), .int .u64 (N : Int), .int .u64 (A : Int), .int .i64 M.k, .int .u64 M.tk, .int .i64 M.c, .int .i64 M.d, .int .i64 M.co, .int .i64 M.fl, .int .i64 M.dy, .int .i64 M.va, .int .i64 M.st, .int .i64 M.ho, .int .u64 M.nx]) := Lib.hid HF.out
      cases om
      · have HOK : Hid (okL20 b = false) := Lib.hid (by rw [HOKD.out]; rfl)
        have HOF : Hid (lOf b = zLt ∧ okL20 b = false) := Lib.hid ⟨by unfold lOf; rw [if_neg (by rw [HOK.out]; simp)], HOK.out⟩
        have th := there_rowT (n := 15) HF.out.z rfl
        have h1n : ([.int .i64 0, .int .i64 0, .int .u64 0, .int .u64 0, .int .i64 0, .int .u64 0, .int .i64 0, .int .i64 0, .int .i64 0, .int .i64 0, .int .i64 0, .int .i64 0, .int .i64 0, .int .i64 0, .int .u64 0] : List Value).length = 15 := rfl
        have h1c : ([.int .i64 0, .int .i64 0, .int .u64 0, .int .u64 0, .int .i64 0, .int .u64 0, .int .i64 0, .int .i64 0, .int .i64 0, .int .i64 0, .int .i64 0, .int .i64 0, .int .i64 0, .int .i64 0, .int .u64 0] : List Value).all (·.oneCell') = true := rfl
        go_wp2_with fail
        have hr6 := setCells_rowT (g := w.heap.size) (cs := [.int .i64 0, .int .i64 0, .int .u64 0, .int .u64 0, .int .i64 0, .int .u64 0, .int .i64 0, .int .i64 0, .int .i64 0, .int .i64 0, .int .i64 0, .int .i64 0, .int .i64 0, .int .i64 0, .int .u64 0]) HF.out.z rfl
        (try simp only [Exit.inBlock, Exit.then])
        refine bodyPost_ret (results_cellT2 rfl _ _ w.heap.size rfl (loadLt hr6 rfl)) rfl ?_
        rw [HOF.out.1, HOF.out.2]
        exact ⟨rfl, Only.below (HF.out.below (by omega)) (Nat.le_refl _) HF.out.b.size ((Only.refl w.heap.size _).setCells 0 _)⟩
      · have HMM := Lib.hid (fun W => rLmay_any (F : Int) (T : Int) (N : Int) (A : Int) M.k M.tk M.c M.d M.co M.fl M.dy M.va M.st M.ho M.nx HMW.out.1 HUN.out HUA.out W)
        obtain ⟨mb, hmb⟩ : ∃ q, Ltr.mayB (F : Int) (T : Int) (N : Int) (A : Int) M.k M.tk M.c M.d M.co M.fl M.dy M.va M.st M.ho M.nx = q := ⟨_, rfl⟩
        rw [hmb] at HMM
        have HOK : Hid (okL20 b = mb) := Lib.hid (by rw [HOKD.out, HLG.out, ← hmb]; rfl)
        clear hmb
        obtain ⟨f1, f2⟩ := row_loT 15 HF.out.t rfl rfl
        go_wp2_with fail
        clear f1 f2
        refine (HMM.out _).mono ?_
        rintro e wm ⟨rfl, hbm⟩
        replace HF := Lib.hid (HF.out.belowW hbm)
        clear hbm
        cases mb
        · have HOF : Hid (lOf b = zLt ∧ okL20 b = false) := Lib.hid ⟨by unfold lOf; rw [if_neg (by rw [HOK.out]; simp)], HOK.out⟩
          have th := there_rowT (n := 15) HF.out.z rfl
          have h1n : ([.int .i64 0, .int .i64 0, .int .u64 0, .int .u64 0, .int .i64 0, .int .u64 0, .int .i64 0, .int .i64 0, .int .i64 0, .int .i64 0, .int .i64 0, .int .i64 0, .int .i64 0, .int .i64 0, .int .u64 0] : List Value).length = 15 := rfl
          have h1c : ([.int .i64 0, .int .i64 0, .int .u64 0, .int .u64 0, .int .i64 0, .int .u64 0, .int .i64 0, .int .i64 0, .int .i64 0, .int .i64 0, .int .i64 0, .int .i64 0, .int .i64 0, .int .i64 0, .int .u64 0] : List Value).all (·.oneCell') = true := rfl
          go_wp2_with fail
          have hr6 := setCells_rowT (g := w.heap.size) (cs := [.int .i64 0, .int .i64 0, .int .u64 0, .int .u64 0, .int .i64 0, .int .u64 0, .int .i64 0, .int .i64 0, .int .i64 0, .int .i64 0, .int .i64 0, .int .i64 0, .int .i64 0, .int .i64 0, .int .u64 0]) HF.out.z rfl
          (try simp only [Exit.inBlock, Exit.then])
          refine bodyPost_ret (results_cellT2 rfl _ _ w.heap.size rfl (loadLt hr6 rfl)) rfl ?_
          rw [HOF.out.1, HOF.out.2]
          exact ⟨rfl, Only.below (HF.out.below (by omega)) (Nat.le_refl _) HF.out.b.size ((Only.refl w.heap.size _).setCells 0 _)⟩
        · have HOF : Hid (lOf b = ⟨(F : Int), (T : Int), (N : Int), (A : Int), M.k, M.tk, M.c, M.d, M.co, M.fl, M.dy, M.va, M.st, M.ho, M.nx⟩ ∧ okL20 b = true) := Lib.hid ⟨by unfold lOf; rw [if_pos HOK.out, HLG.out], HOK.out⟩
          have th := there_rowT (n := 15) HF.out.z rfl
          have h1n : ([.int .i64 (F : Int), .int .i64 (T : Int), .int .u64 (N : Int), .int .u64 (A : Int), .int .i64 M.k, .int .u64 M.tk, .int .i64 M.c, .int .i64 M.d, .int .i64 M.co, .int .i64 M.fl, .int .i64 M.dy, .int .i64 M.va, .int .i64 M.st, .int .i64 M.ho, .int .u64 M.nx] : List Value).length = 15 := rfl
          have h1c : ([.int .i64 (F : Int), .int .i64 (T : Int), .int .u64 (N : Int), .int .u64 (A : Int), .int .i64 M.k, .int .u64 M.tk, .int .i64 M.c, .int .i64 M.d, .int .i64 M.co, .int .i64 M.fl, .int .i64 M.dy, .int .i64 M.va, .int .i64 M.st, .int .i64 M.ho, .int .u64 M.nx] : List Value).all (·.oneCell') = true := rfl
          obtain ⟨f1, f2⟩ := row_loT 15 HF.out.t rfl rfl
          go_wp2_with fail
          have hr6 := setCells_rowT (g := w.heap.size) (cs := [.int .i64 (F : Int), .int .i64 (T : Int), .int .u64 (N : Int), .int .u64 (A : Int), .int .i64 M.k, .int .u64 M.tk, .int .i64 M.c, .int .i64 M.d, .int .i64 M.co, .int .i64 M.fl, .int .i64 M.dy, .int .i64 M.va, .int .i64 M.st, .int .i64 M.ho, .int .u64 M.nx]) HF.out.z rfl
          (try simp only [Exit.inBlock, Exit.then])
          refine bodyPost_ret (results_cellT2 rfl _ _ w.heap.size rfl (loadLt hr6 rfl)) rfl ?_
          rw [HOF.out.1, HOF.out.2]
          exact ⟨rfl, Only.below (HF.out.below (by omega)) (Nat.le_refl _) HF.out.b.size ((Only.refl w.heap.size _).setCells 0 _)⟩
  · have HE4 : lS4 b = none := by
      rcases HNC.out with ⟨-, h, -⟩ | ⟨-, -, h⟩
      · rw [h] at hst; cases hst
      · exact h
    have HOK : Hid (okL20 b = false) := Lib.hid (by unfold okL20; rw [HE4]; simp)
    have HOF : Hid (lOf b = zLt ∧ okL20 b = false) := Lib.hid ⟨by unfold lOf; rw [if_neg (by rw [HOK.out]; simp)], HOK.out⟩
    clear HE4 hst
    generalize hcl : cb.length = cl at *
    clear hcl
    have th := there_rowT (n := 15) HF.out.z rfl
    have h1n : ([.int .i64 0, .int .i64 0, .int .u64 0, .int .u64 0, .int .i64 0, .int .u64 0, .int .i64 0, .int .i64 0, .int .i64 0, .int .i64 0, .int .i64 0, .int .i64 0, .int .i64 0, .int .i64 0, .int .u64 0] : List Value).length = 15 := rfl
    have h1c : ([.int .i64 0, .int .i64 0, .int .u64 0, .int .u64 0, .int .i64 0, .int .u64 0, .int .i64 0, .int .i64 0, .int .i64 0, .int .i64 0, .int .i64 0, .int .i64 0, .int .i64 0, .int .i64 0, .int .u64 0] : List Value).all (·.oneCell') = true := rfl
    go_wp2_with fail
    have hr6 := setCells_rowT (g := w.heap.size) (cs := [.int .i64 0, .int .i64 0, .int .u64 0, .int .u64 0, .int .i64 0, .int .u64 0, .int .i64 0, .int .i64 0, .int .i64 0, .int .i64 0, .int .i64 0, .int .i64 0, .int .i64 0, .int .i64 0, .int .u64 0]) HF.out.z rfl
    (try simp only [Exit.inBlock, Exit.then])
    refine bodyPost_ret (results_cellT2 rfl _ _ w.heap.size rfl (loadLt hr6 rfl)) rfl ?_
    rw [HOF.out.1, HOF.out.2]
    exact ⟨rfl, Only.below (HF.out.below (by omega)) (Nat.le_refl _) HF.out.b.size ((Only.refl w.heap.size _).setCells 0 _)⟩
end Go.Proofs.YtellhmbebimenaaDoor
