/- Plain: request.May and the reference's May say the same; no program in sight. Contract: the law's copied (16): a request in new memory. -/
import Derived.Test.YtbmphlpmipkpcaaGreatRnm50

section
set_option linter.unusedVariables false
set_option linter.unusedSimpArgs false
namespace Go.Proofs.YtbmphlpmipkpcaaGreat
open Go.RowKit Go.Deep

set_option maxRecDepth 4000 in
set_option maxHeartbeats 2000000 in
theorem may_same (x : Rqt) : Rq.mayRq x = Rq.rmayRq x := by
  obtain ⟨k, hk⟩ : ∃ k, x.k = k := ⟨_, rfl⟩
  unfold Rq.mayRq Rq.rmayRq
  rw [hk]
  rcases Rq.kind_cases k with rfl | rfl | rfl | rfl | rfl | rfl | rfl | rfl | rfl | rfl | ho
  · have e1 : Rq.runX (Rq.partsF 1) x = { x with key := ⟨#[]⟩, d := 0, loc := ⟨#[]⟩, cs := [], xs := [] } := rfl
    have e2 : Rq.onlyX x 1 = { Rq.zeroK x.k with key := x.key, d := x.d, loc := x.loc, cs := x.cs, xs := x.xs } := rfl
    have e3 : Rq.runG (Rq.partsF 1) true x = (true && Rq.partB 131 x && Rq.partB 132 x && Rq.partB 133 x && Rq.partB 134 x && Rq.partB 135 x) := rfl
    have e4 : (Rq.rowL 1).all (fun c => Rq.partB (Rq.fnOf (c.toNat : Int)) x) = (Rq.partB 131 x && (Rq.partB 132 x && (Rq.partB 133 x && (Rq.partB 134 x && (Rq.partB 135 x && (true)))))) := rfl
    have e5 : eqRq (Rq.runX (Rq.partsF 1) x) (Rq.zeroK 1) = eqRq x (Rq.onlyX x 1) := by
      rw [e1, e2, hk]
      unfold eqRq bareB Rq.zeroK
      simp [hk]
    rw [e5, e3, e4]
    simp only [Bool.true_and, Bool.and_true, Bool.and_assoc]
    rfl
  · have e1 : Rq.runX (Rq.partsF 2) x = { x with key := ⟨#[]⟩, d := 0, tk := 0, c := 0, st := 0 } := rfl
    have e2 : Rq.onlyX x 2 = { Rq.zeroK x.k with key := x.key, d := x.d, tk := x.tk, c := x.c, st := x.st } := rfl
    have e3 : Rq.runG (Rq.partsF 2) true x = (true && Rq.partB 131 x && Rq.partB 132 x && Rq.partB 136 x && Rq.partB 137 x && Rq.partB 138 x) := rfl
    have e4 : (Rq.rowL 2).all (fun c => Rq.partB (Rq.fnOf (c.toNat : Int)) x) = (Rq.partB 131 x && (Rq.partB 132 x && (Rq.partB 136 x && (Rq.partB 137 x && (Rq.partB 138 x && (true)))))) := rfl
    have e5 : eqRq (Rq.runX (Rq.partsF 2) x) (Rq.zeroK 2) = eqRq x (Rq.onlyX x 2) := by
      rw [e1, e2, hk]
      unfold eqRq bareB Rq.zeroK
      simp [hk]
    rw [e5, e3, e4]
    simp only [Bool.true_and, Bool.and_true, Bool.and_assoc]
    rfl
  · have e1 : Rq.runX (Rq.partsF 3) x = { x with key := ⟨#[]⟩, d := 0, tk := 0 } := rfl
    have e2 : Rq.onlyX x 3 = { Rq.zeroK x.k with key := x.key, d := x.d, tk := x.tk } := rfl
    have e3 : Rq.runG (Rq.partsF 3) true x = (true && Rq.partB 131 x && Rq.partB 132 x && Rq.partB 136 x) := rfl
    have e4 : (Rq.rowL 3).all (fun c => Rq.partB (Rq.fnOf (c.toNat : Int)) x) = (Rq.partB 131 x && (Rq.partB 132 x && (Rq.partB 136 x && (true)))) := rfl
    have e5 : eqRq (Rq.runX (Rq.partsF 3) x) (Rq.zeroK 3) = eqRq x (Rq.onlyX x 3) := by
      rw [e1, e2, hk]
      unfold eqRq bareB Rq.zeroK
      simp [hk]
    rw [e5, e3, e4]
    simp only [Bool.true_and, Bool.and_true, Bool.and_assoc]
    rfl
  · have e1 : Rq.runX (Rq.partsF 4) x = { x with key := ⟨#[]⟩, d := 0, tk := 0, am := 0 } := rfl
    have e2 : Rq.onlyX x 4 = { Rq.zeroK x.k with key := x.key, d := x.d, tk := x.tk, am := x.am } := rfl
    have e3 : Rq.runG (Rq.partsF 4) true x = (true && Rq.partB 131 x && Rq.partB 132 x && Rq.partB 136 x && Rq.partB 139 x) := rfl
    have e4 : (Rq.rowL 4).all (fun c => Rq.partB (Rq.fnOf (c.toNat : Int)) x) = (Rq.partB 131 x && (Rq.partB 132 x && (Rq.partB 136 x && (Rq.partB 139 x && (true))))) := rfl
    have e5 : eqRq (Rq.runX (Rq.partsF 4) x) (Rq.zeroK 4) = eqRq x (Rq.onlyX x 4) := by
      rw [e1, e2, hk]
      unfold eqRq bareB Rq.zeroK
      simp [hk]
    rw [e5, e3, e4]
    simp only [Bool.true_and, Bool.and_true, Bool.and_assoc]
    rfl
  · have e1 : Rq.runX (Rq.partsF 5) x = { x with key := ⟨#[]⟩, d := 0, tk := 0, am := 0, cs := [], xs := [] } := rfl
    have e2 : Rq.onlyX x 5 = { Rq.zeroK x.k with key := x.key, d := x.d, tk := x.tk, am := x.am, cs := x.cs, xs := x.xs } := rfl
    have e3 : Rq.runG (Rq.partsF 5) true x = (true && Rq.partB 131 x && Rq.partB 132 x && Rq.partB 136 x && Rq.partB 139 x && Rq.partB 140 x && Rq.partB 135 x) := rfl
    have e4 : (Rq.rowL 5).all (fun c => Rq.partB (Rq.fnOf (c.toNat : Int)) x) = (Rq.partB 131 x && (Rq.partB 132 x && (Rq.partB 136 x && (Rq.partB 139 x && (Rq.partB 140 x && (Rq.partB 135 x && (true))))))) := rfl
    have e5 : eqRq (Rq.runX (Rq.partsF 5) x) (Rq.zeroK 5) = eqRq x (Rq.onlyX x 5) := by
      rw [e1, e2, hk]
      unfold eqRq bareB Rq.zeroK
      simp [hk]
    rw [e5, e3, e4]
    simp only [Bool.true_and, Bool.and_true, Bool.and_assoc]
    rfl
  · have e1 : Rq.runX (Rq.partsF 6) x = { x with key := ⟨#[]⟩, d := 0, tk := 0, c := 0 } := rfl
    have e2 : Rq.onlyX x 6 = { Rq.zeroK x.k with key := x.key, d := x.d, tk := x.tk, c := x.c } := rfl
    have e3 : Rq.runG (Rq.partsF 6) true x = (true && Rq.partB 131 x && Rq.partB 132 x && Rq.partB 136 x && Rq.partB 137 x) := rfl
    have e4 : (Rq.rowL 6).all (fun c => Rq.partB (Rq.fnOf (c.toNat : Int)) x) = (Rq.partB 131 x && (Rq.partB 132 x && (Rq.partB 136 x && (Rq.partB 137 x && (true))))) := rfl
    have e5 : eqRq (Rq.runX (Rq.partsF 6) x) (Rq.zeroK 6) = eqRq x (Rq.onlyX x 6) := by
      rw [e1, e2, hk]
      unfold eqRq bareB Rq.zeroK
      simp [hk]
    rw [e5, e3, e4]
    simp only [Bool.true_and, Bool.and_true, Bool.and_assoc]
    rfl
  · have e1 : Rq.runX (Rq.partsF 7) x = { x with key := ⟨#[]⟩, d := 0, tk := 0, c := 0 } := rfl
    have e2 : Rq.onlyX x 7 = { Rq.zeroK x.k with key := x.key, d := x.d, tk := x.tk, c := x.c } := rfl
    have e3 : Rq.runG (Rq.partsF 7) true x = (true && Rq.partB 131 x && Rq.partB 132 x && Rq.partB 136 x && Rq.partB 137 x) := rfl
    have e4 : (Rq.rowL 7).all (fun c => Rq.partB (Rq.fnOf (c.toNat : Int)) x) = (Rq.partB 131 x && (Rq.partB 132 x && (Rq.partB 136 x && (Rq.partB 137 x && (true))))) := rfl
    have e5 : eqRq (Rq.runX (Rq.partsF 7) x) (Rq.zeroK 7) = eqRq x (Rq.onlyX x 7) := by
      rw [e1, e2, hk]
      unfold eqRq bareB Rq.zeroK
      simp [hk]
    rw [e5, e3, e4]
    simp only [Bool.true_and, Bool.and_true, Bool.and_assoc]
    rfl
  · have e1 : Rq.runX (Rq.partsF 8) x = { x with tk := 0 } := rfl
    have e2 : Rq.onlyX x 8 = { Rq.zeroK x.k with tk := x.tk } := rfl
    have e3 : Rq.runG (Rq.partsF 8) true x = (true && Rq.partB 136 x) := rfl
    have e4 : (Rq.rowL 8).all (fun c => Rq.partB (Rq.fnOf (c.toNat : Int)) x) = (Rq.partB 136 x && (true)) := rfl
    have e5 : eqRq (Rq.runX (Rq.partsF 8) x) (Rq.zeroK 8) = eqRq x (Rq.onlyX x 8) := by
      rw [e1, e2, hk]
      unfold eqRq bareB Rq.zeroK
      simp [hk]
    rw [e5, e3, e4]
    simp only [Bool.true_and, Bool.and_true, Bool.and_assoc]
    rfl
  · have e1 : Rq.runX (Rq.partsF 9) x = { x with loc := ⟨#[]⟩ } := rfl
    have e2 : Rq.onlyX x 9 = { Rq.zeroK x.k with loc := x.loc } := rfl
    have e3 : Rq.runG (Rq.partsF 9) true x = (true && Rq.partB 133 x) := rfl
    have e4 : (Rq.rowL 9).all (fun c => Rq.partB (Rq.fnOf (c.toNat : Int)) x) = (Rq.partB 133 x && (true)) := rfl
    have e5 : eqRq (Rq.runX (Rq.partsF 9) x) (Rq.zeroK 9) = eqRq x (Rq.onlyX x 9) := by
      rw [e1, e2, hk]
      unfold eqRq bareB Rq.zeroK
      simp [hk]
    rw [e5, e3, e4]
    simp only [Bool.true_and, Bool.and_true, Bool.and_assoc]
    rfl
  · have e1 : Rq.runX (Rq.partsF 10) x = { x with fr := 0, tt := 0 } := rfl
    have e2 : Rq.onlyX x 10 = { Rq.zeroK x.k with fr := x.fr, tt := x.tt } := rfl
    have e3 : Rq.runG (Rq.partsF 10) true x = (true && Rq.partB 141 x) := rfl
    have e4 : (Rq.rowL 10).all (fun c => Rq.partB (Rq.fnOf (c.toNat : Int)) x) = (Rq.partB 141 x && (true)) := rfl
    have e5 : eqRq (Rq.runX (Rq.partsF 10) x) (Rq.zeroK 10) = eqRq x (Rq.onlyX x 10) := by
      rw [e1, e2, hk]
      unfold eqRq bareB Rq.zeroK
      simp [hk]
    rw [e5, e3, e4]
    simp only [Bool.true_and, Bool.and_true, Bool.and_assoc]
    rfl
  · rw [(Rq.parts_out ho).2, Rq.rowL_out ho]
    rfl
end Go.Proofs.YtbmphlpmipkpcaaGreat
end

section
set_option linter.unusedVariables false
set_option linter.unusedSimpArgs false
namespace Go.Proofs.YtbmphlpmipkpcaaGreat
open Go.RowKit Go.Deep
attribute [local go_sem ↓] Rq_execLoad Rq_execStore

attribute [local go_sem] Rq_load Rq_store loL_drew okL_drew there_sc World.there_drew

set_option maxRecDepth 8000 in
set_option maxHeartbeats 2000000 in
theorem rcopied_any (x : Rqt) (p q : Option Addr) (n cap m cap2 : Nat) (w : World) (hlc : LS Cpn.cells 6 w (.slice p n cap) x.cs) (hlt : LS Txx.cells 2 w (.slice q m cap2) x.xs) (h1 : x.cs.length ≤ 1000) (h2 : x.xs.length ≤ 1000) : Calls Tryz.prog 21 #[.agg #[.string x.key, .int .i64 x.k, .int .i64 x.d, .int .u64 x.tk, .int .i64 x.c, .int .i64 x.st, .string x.loc, .slice p n cap, .slice q m cap2, .int .i64 x.am, .int .i64 x.fr, .int .i64 x.tt]] w fun e w' => ∃ cv tv, e = .returned (.agg #[.string x.key, .int .i64 x.k, .int .i64 x.d, .int .u64 x.tk, .int .i64 x.c, .int .i64 x.st, .string x.loc, cv, tv, .int .i64 x.am, .int .i64 x.fr, .int .i64 x.tt]) ∧ w'.ownsRow w.heap.size 33 6 cv x.cs.length (encL Cpn.cells x.cs) ∧ w'.ownsRow w.heap.size 127 2 tv x.xs.length (encL Txx.cells x.xs) ∧ Below w.heap.size w w' := by
  have HLC := Lib.hid hlc; have HLT := Lib.hid hlt
  have HB := Lib.hid (((Below.refl w.heap.size w).alloc (Nat.le_refl _) (.cells #[.string x.key, .int .i64 x.k, .int .i64 x.d, .int .u64 x.tk, .int .i64 x.c, .int .i64 x.st, .string x.loc, .slice p n cap, .slice q m cap2, .int .i64 x.am, .int .i64 x.fr, .int .i64 x.tt] 57 (0, 0))).alloc (by simp) (.cells #[.string ⟨#[]⟩, .int .i64 0, .int .i64 0, .int .u64 0, .int .i64 0, .int .i64 0, .string ⟨#[]⟩, .slice none 0 0, .slice none 0 0, .int .i64 0, .int .i64 0, .int .i64 0] 57 (0, 0)))
  have HR : Hid (((w.alloc (.cells #[.string x.key, .int .i64 x.k, .int .i64 x.d, .int .u64 x.tk, .int .i64 x.c, .int .i64 x.st, .string x.loc, .slice p n cap, .slice q m cap2, .int .i64 x.am, .int .i64 x.fr, .int .i64 x.tt] 57 (0, 0))).alloc (.cells #[.string ⟨#[]⟩, .int .i64 0, .int .i64 0, .int .u64 0, .int .i64 0, .int .i64 0, .string ⟨#[]⟩, .slice none 0 0, .slice none 0 0, .int .i64 0, .int .i64 0, .int .i64 0] 57 (0, 0))).heap[w.heap.size]? = some (.cells #[.string x.key, .int .i64 x.k, .int .i64 x.d, .int .u64 x.tk, .int .i64 x.c, .int .i64 x.st, .string x.loc, .slice p n cap, .slice q m cap2, .int .i64 x.am, .int .i64 x.fr, .int .i64 x.tt] 57 (0, 0))) := Lib.hid (row_after (new_rowW _ _ _ rfl))
  have HZ : Hid (((w.alloc (.cells #[.string x.key, .int .i64 x.k, .int .i64 x.d, .int .u64 x.tk, .int .i64 x.c, .int .i64 x.st, .string x.loc, .slice p n cap, .slice q m cap2, .int .i64 x.am, .int .i64 x.fr, .int .i64 x.tt] 57 (0, 0))).alloc (.cells #[.string ⟨#[]⟩, .int .i64 0, .int .i64 0, .int .u64 0, .int .i64 0, .int .i64 0, .string ⟨#[]⟩, .slice none 0 0, .slice none 0 0, .int .i64 0, .int .i64 0, .int .i64 0] 57 (0, 0))).heap[w.heap.size + 1]? = some (.cells #[.string ⟨#[]⟩, .int .i64 0, .int .i64 0, .int .u64 0, .int .i64 0, .int .i64 0, .string ⟨#[]⟩, .slice none 0 0, .slice none 0 0, .int .i64 0, .int .i64 0, .int .i64 0] 57 (0, 0))) := Lib.hid (new_rowW _ _ _ (by simp))
  have hc := fun j => cell_of_row _ w.heap.size j _ _ _ HR.out
  clear hlc hlt
  go_enter Tryz.func21, Tryz.ntmps21
  have HLS1 := Lib.hid (HLC.out.below HB.out)
  go_upto_region 2 with (at_builtin; refine wpList_append_recs elemCp rfl _ _ rfl w.heap.size (.slice none 0 0) 0 [] rfl (World.ownsRow_nil _ _ _ _) _ x.cs rfl HLS1.out (by omega) HB.out.size ?_; intro v1 w1 hown hg hnn hat; rw [Nat.zero_add, List.nil_append] at hown; obtain ⟨q1, z1, rfl⟩ := rec_formT hown; have O1 := Lib.hid hown; have hbn := ((Below.refl _ _).grown hg (Nat.le_refl _) (fun b hb => by cases hb)); have HB := Lib.hid (HB.out.trans (hbn.mono HB.out.size)); have HR := Lib.hid ((hbn.block _ (block_lt HR.out)).trans HR.out); have HZ := Lib.hid ((hbn.block _ (block_lt HZ.out)).trans HZ.out); have hc := fun j => cell_of_row _ w.heap.size j _ _ _ HR.out; have kf := fun j => frozen_of_row _ w.heap.size j _ _ HR.out; clear hown hg hnn hat hbn)
  have HR2 : Hid ((w1.setCell ⟨w.heap.size, 7, none⟩ (.slice q1 x.cs.length z1)).heap[w.heap.size]? = some (.cells #[.string x.key, .int .i64 x.k, .int .i64 x.d, .int .u64 x.tk, .int .i64 x.c, .int .i64 x.st, .string x.loc, .slice q1 x.cs.length z1, .slice q m cap2, .int .i64 x.am, .int .i64 x.fr, .int .i64 x.tt] 57 (0, 0))) := Lib.hid (heap_setCell_same _ _ 7 _ _ (.slice q1 x.cs.length z1) HR.out)
  have HON := Lib.hid ((Only.refl w.heap.size w1).setCell 7 (.slice q1 x.cs.length z1))
  clear hc kf
  generalize (w1.setCell ⟨w.heap.size, 7, none⟩ (.slice q1 x.cs.length z1)) = wb at *
  have HZ := Lib.hid ((HON.out.block _ (block_lt HZ.out) (by omega)).trans HZ.out)
  have O1 := Lib.hid (recs_keep O1.out (fun b hb hlt => HON.out.block b hlt (own_neT O1.out HR.out (by decide) b hb)))
  have HB := Lib.hid (Only.below HB.out (Nat.le_refl _) HB.out.size HON.out)
  have HR := HR2
  clear HON HR2
  have hc := fun j => cell_of_row _ w.heap.size j _ _ _ HR.out
  have kf := fun j => frozen_of_row _ w.heap.size j _ _ HR.out
  have HLS2 := Lib.hid (HLT.out.below HB.out)
  go_upto_region 3 with (at_builtin; refine wpList_append_recs elemTx rfl _ _ rfl w.heap.size (.slice none 0 0) 0 [] rfl (World.ownsRow_nil _ _ _ _) _ x.xs rfl HLS2.out (by omega) HB.out.size ?_; intro v2 w2 hown hg hnn hat; rw [Nat.zero_add, List.nil_append] at hown; obtain ⟨q2, z2, rfl⟩ := rec_formT hown; have O2 := Lib.hid hown; have hbn := ((Below.refl _ _).grown hg (Nat.le_refl _) (fun b hb => by cases hb)); have O1 := Lib.hid (recs_below O1.out hbn); have HB := Lib.hid (HB.out.trans (hbn.mono HB.out.size)); have HR := Lib.hid ((hbn.block _ (block_lt HR.out)).trans HR.out); have HZ := Lib.hid ((hbn.block _ (block_lt HZ.out)).trans HZ.out); have hc := fun j => cell_of_row _ w.heap.size j _ _ _ HR.out; have kf := fun j => frozen_of_row _ w.heap.size j _ _ HR.out; clear hown hg hnn hat hbn)
  have HR2 : Hid ((w2.setCell ⟨w.heap.size, 8, none⟩ (.slice q2 x.xs.length z2)).heap[w.heap.size]? = some (.cells #[.string x.key, .int .i64 x.k, .int .i64 x.d, .int .u64 x.tk, .int .i64 x.c, .int .i64 x.st, .string x.loc, .slice q1 x.cs.length z1, .slice q2 x.xs.length z2, .int .i64 x.am, .int .i64 x.fr, .int .i64 x.tt] 57 (0, 0))) := Lib.hid (heap_setCell_same _ _ 8 _ _ (.slice q2 x.xs.length z2) HR.out)
  have HON := Lib.hid ((Only.refl w.heap.size w2).setCell 8 (.slice q2 x.xs.length z2))
  clear hc kf
  generalize (w2.setCell ⟨w.heap.size, 8, none⟩ (.slice q2 x.xs.length z2)) = wb at *
  have HZ := Lib.hid ((HON.out.block _ (block_lt HZ.out) (by omega)).trans HZ.out)
  have O1 := Lib.hid (recs_keep O1.out (fun b hb hlt => HON.out.block b hlt (own_neT O1.out HR.out (by decide) b hb)))
  have O2 := Lib.hid (recs_keep O2.out (fun b hb hlt => HON.out.block b hlt (own_neT O2.out HR.out (by decide) b hb)))
  have HB := Lib.hid (Only.below HB.out (Nat.le_refl _) HB.out.size HON.out)
  have HR := HR2
  clear HON HR2
  obtain ⟨f1, f2⟩ := row_loT 12 HR.out rfl rfl
  have th := there_rowT (n := 12) HZ.out rfl
  have h1n : ([.string x.key, .int .i64 x.k, .int .i64 x.d, .int .u64 x.tk, .int .i64 x.c, .int .i64 x.st, .string x.loc, .slice q1 x.cs.length z1, .slice q2 x.xs.length z2, .int .i64 x.am, .int .i64 x.fr, .int .i64 x.tt] : List Value).length = 12 := rfl
  have h1c : ([.string x.key, .int .i64 x.k, .int .i64 x.d, .int .u64 x.tk, .int .i64 x.c, .int .i64 x.st, .string x.loc, .slice q1 x.cs.length z1, .slice q2 x.xs.length z2, .int .i64 x.am, .int .i64 x.fr, .int .i64 x.tt] : List Value).all (·.oneCell') = true := rfl
  go_wp2
  have hr6 := setCells_rowT (g := w.heap.size + 1) (cs := [.string x.key, .int .i64 x.k, .int .i64 x.d, .int .u64 x.tk, .int .i64 x.c, .int .i64 x.st, .string x.loc, .slice q1 x.cs.length z1, .slice q2 x.xs.length z2, .int .i64 x.am, .int .i64 x.fr, .int .i64 x.tt]) HZ.out rfl
  have hon6 := (Only.refl (w.heap.size + 1) wb).setCells 0 ([.string x.key, .int .i64 x.k, .int .i64 x.d, .int .u64 x.tk, .int .i64 x.c, .int .i64 x.st, .string x.loc, .slice q1 x.cs.length z1, .slice q2 x.xs.length z2, .int .i64 x.am, .int .i64 x.fr, .int .i64 x.tt])
  generalize wb.setCells (w.heap.size + 1) 0 ([.string x.key, .int .i64 x.k, .int .i64 x.d, .int .u64 x.tk, .int .i64 x.c, .int .i64 x.st, .string x.loc, .slice q1 x.cs.length z1, .slice q2 x.xs.length z2, .int .i64 x.am, .int .i64 x.fr, .int .i64 x.tt]) = w6 at *
  (try simp only [Exit.inBlock, Exit.then])
  refine bodyPost_ret (results_cellT rfl _ _ (w.heap.size + 1) rfl (loadRq hr6 rfl)) rfl ?_
  have keep : ∀ {β : Type} {en : β → List Value} {nn m : Nat} {e : TypeId} {v : Value} {l : List β}, e ≠ 57 → wb.ownsRow w.heap.size e nn v m (encL en l) → w6.ownsRow w.heap.size e nn v m (encL en l) := fun hne ho => recs_keep ho (fun b hb hlt => hon6.block b hlt (own_neT ho HZ.out hne b hb))
  exact ⟨_, _, rfl, keep (by decide) O1.out, keep (by decide) O2.out, Only.below HB.out (by omega) HB.out.size hon6⟩
end Go.Proofs.YtbmphlpmipkpcaaGreat
end
