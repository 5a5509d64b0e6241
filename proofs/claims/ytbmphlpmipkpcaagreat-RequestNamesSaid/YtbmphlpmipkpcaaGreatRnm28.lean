/- Contract: which requests may be (request.May), where a kind names no lists. -/
import Derived.Test.YtbmphlpmipkpcaaGreatRnm27

set_option linter.unusedVariables false
set_option linter.unusedSimpArgs false
namespace Go.Proofs.YtbmphlpmipkpcaaGreat
open Go.RowKit Go.Deep

namespace Rq
/-- coupons of a sale, so many at most -/
def coupB (most : Int) (l : List Cpn) : Bool := inB 1 most (l.length : Int) && l.all (fun c => flyB c.fl c.dy c.va && decide (c.st = 0) && decide (c.ho = 0) && decide (c.nx = 0))
/-- taxes, from a code on -/
def taxGo : Int → List Txx → Bool
  | _, [] => true
  | m, t :: r => (inB m 99 t.cd && inB 0 1000000000000 t.am) && taxGo (min t.cd 99 + 1) r
def taxesB (l : List Txx) : Bool := inB 0 4 (l.length : Int) && taxGo 1 l
/-- may a part be? -/
def partB (f : Nat) (x : Rqt) : Bool := if f = 131 then inB 1 16 (x.key.size : Int) && Rq.keyB x.key.data.toList else if f = 132 then inB 0 1000000 x.d else if f = 136 then Tkt.numB x.tk else if f = 137 then inB 1 4 x.c else if f = 138 then inB 1 9 x.st else if f = 139 then inB 0 1000000000000 x.am else if f = 133 then Num.loc x.loc.data.toList else if f = 141 then inB 0 1000000 x.fr && inB 0 1000000 x.tt else if f = 134 then coupB 12 x.cs else if f = 140 then coupB 4 x.cs else if f = 135 then taxesB x.xs else true
/-- a request without a part -/
def partC (f : Nat) (x : Rqt) : Rqt := if f = 131 then { x with key := ⟨#[]⟩ } else if f = 132 then { x with d := 0 } else if f = 136 then { x with tk := 0 } else if f = 137 then { x with c := 0 } else if f = 138 then { x with st := 0 } else if f = 139 then { x with am := 0 } else if f = 133 then { x with loc := ⟨#[]⟩ } else if f = 141 then { x with fr := 0, tt := 0 } else if f = 134 then { x with cs := [] } else if f = 140 then { x with cs := [] } else if f = 135 then { x with xs := [] } else x
def runX : List Nat → Rqt → Rqt
  | [], x => x
  | f :: r, x => runX r (partC f x)
def runG : List Nat → Bool → Rqt → Bool
  | [], gd, _ => gd
  | f :: r, gd, x => runG r (gd && partB f x) (partC f x)
theorem runX_snoc : ∀ (l : List Nat) (f : Nat) (x : Rqt), runX (l ++ [f]) x = partC f (runX l x)
  | [], f, x => rfl
  | g :: l, f, x => runX_snoc l f (partC g x)
theorem runG_snoc : ∀ (l : List Nat) (f : Nat) (gd : Bool) (x : Rqt), runG (l ++ [f]) gd x = (runG l gd x && partB f (runX l x))
  | [], f, gd, x => rfl
  | g :: l, f, gd, x => runG_snoc l f (gd && partB g x) (partC g x)
def zeroK (k : Int) : Rqt := ⟨⟨#[]⟩, ⟨#[]⟩, k, 0, 0, 0, 0, 0, 0, 0, [], []⟩
/-- may a request be? -/
def mayRq (x : Rqt) : Bool := !(nameL x.k).isEmpty && (runG (partsF x.k) true x && eqRq (runX (partsF x.k) x) (zeroK x.k))
theorem ite_wf {p : Prop} [Decidable p] {a b : Rqt} (ha : a.wf) (hb : b.wf) : (if p then a else b).wf := by
  by_cases h : p
  · rw [if_pos h]; exact ha
  · rw [if_neg h]; exact hb
theorem ite_k {p : Prop} [Decidable p] {a b : Rqt} {k : Int} (ha : a.k = k) (hb : b.k = k) : (if p then a else b).k = k := by
  by_cases h : p
  · rw [if_pos h]; exact ha
  · rw [if_neg h]; exact hb
theorem partC_wf {f : Nat} {x : Rqt} (h : x.wf) : (partC f x).wf := by
  have z1 : I64 0 := ⟨by decide, by decide⟩
  have z2 : U64 0 := ⟨by decide, by decide⟩
  have z3 : (⟨#[]⟩ : ByteArray).size ≤ maxLen := by decide
  unfold partC
  refine ite_wf ?_ (ite_wf ?_ (ite_wf ?_ (ite_wf ?_ (ite_wf ?_ (ite_wf ?_ (ite_wf ?_ (ite_wf ?_ (ite_wf ?_ (ite_wf ?_ (ite_wf ?_ h))))))))))
  all_goals exact ⟨by first | exact h.key | exact z3, by first | exact h.loc | exact z3, h.k, by first | exact h.d | exact z1, by first | exact h.tk | exact z2, by first | exact h.c | exact z1, by first | exact h.st | exact z1, by first | exact h.am | exact z1, by first | exact h.fr | exact z1, by first | exact h.tt | exact z1, by first | exact h.cs | (intro c hc; cases hc), by first | exact h.xs | (intro c hc; cases hc)⟩
theorem partC_k (f : Nat) (x : Rqt) : (partC f x).k = x.k := by
  unfold partC
  exact ite_k rfl (ite_k rfl (ite_k rfl (ite_k rfl (ite_k rfl (ite_k rfl (ite_k rfl (ite_k rfl (ite_k rfl (ite_k rfl (ite_k rfl rfl))))))))))
theorem runX_k : ∀ (l : List Nat) (x : Rqt), (runX l x).k = x.k
  | [], _ => rfl
  | f :: l, x => (runX_k l (partC f x)).trans (partC_k f x)
end Rq
/-- a request that is gone through, weighed: what was named is cleared -/
structure WSt (w0 : World) (g gq : Nat) (gd : Bool) (x : Rqt) (W : World) : Prop where
  ex : ∃ cv tv, W.heap[g]? = some (.cells #[.pointer none, .pointer none, .bool gd, .pointer (some ⟨gq, 0, none⟩)] 125 (0, 0)) ∧ W.heap[gq]? = some (.cells #[.string x.key, .int .i64 x.k, .int .i64 x.d, .int .u64 x.tk, .int .i64 x.c, .int .i64 x.st, .string x.loc, cv, tv, .int .i64 x.am, .int .i64 x.fr, .int .i64 x.tt] 57 (0, 0)) ∧ W.ownsRow w0.heap.size 33 6 cv x.cs.length (encL Cpn.cells x.cs) ∧ W.ownsRow w0.heap.size 127 2 tv x.xs.length (encL Txx.cells x.xs)
  b : Below w0.heap.size w0 W
  ne : gq ≠ g
  lo : w0.heap.size ≤ g ∧ w0.heap.size ≤ gq
  wf : x.wf
theorem take_sn {α : Type} {l : List α} {k : Nat} {y : α} (h : l[k]? = some y) : l.take (k + 1) = l.take k ++ [y] := by rw [List.take_add_one, h]; rfl
theorem wst0 {w0 W W1 : World} {g gq : Nat} {gd : Bool} {x : Rqt} (h : WSt w0 g gq gd x W) (hb : Below W.heap.size W W1) : WSt w0 g gq gd x W1 := by
  obtain ⟨cv, tv, h1, h2, h3, h4⟩ := h.ex
  exact ⟨⟨cv, tv, (hb.block _ (block_lt h1)).trans h1, (hb.block _ (block_lt h2)).trans h2, recs_below h3 hb, recs_below h4 hb⟩, h.b.trans (hb.mono h.b.size), h.ne, h.lo, h.wf⟩
theorem turn_kf {w w' : World} {g gq : Nat} {cs ds : Array Value} {fr fr' : Nat × Nat} (hx : w.heap[g]? = some (.cells cs 125 fr)) (hy : w.heap[gq]? = some (.cells ds 57 fr')) (h : Turn (fun k => k = g ∨ k = gq) w w') : Rq.KF w w' := fun k es fs hk =>
  (h.block k (block_lt hk) (by
    rintro (rfl | rfl)
    · exact row_neT hk hx (by decide) rfl
    · exact row_neT hk hy (by decide) rfl)).trans hk
theorem own_turn {w w' : World} {base e n m : Nat} {v : Value} {xs : List Value} {g gq : Nat} {cs ds : Array Value} {t1 t2 : TypeId} {fr fr' : Nat × Nat} (h : w.ownsRow base e n v m xs) (hx : w.heap[g]? = some (.cells cs t1 fr)) (hy : w.heap[gq]? = some (.cells ds t2 fr')) (h1 : e ≠ t1) (h2 : e ≠ t2) (ht : Turn (fun k => k = g ∨ k = gq) w w') : w'.ownsRow base e n v m xs :=
  recs_keep h fun b hb hl => ht.block b hl (by
    rintro (rfl | rfl)
    · exact own_neT h hx h1 _ hb rfl
    · exact own_neT h hy h2 _ hb rfl)

theorem wst_key {w0 W : World} {g gq : Nat} {gd : Bool} {x : Rqt} (h : WSt w0 g gq gd x W) : Calls Tryz.prog 131 #[.pointer (some ⟨g, 0, none⟩)] W fun e w' => e = .returned (.tuple #[]) ∧ WSt w0 g gq (gd && Rq.partB 131 x) (Rq.partC 131 x) w' ∧ Rq.KF W w' := by
  obtain ⟨cv, tv, h1, h2, h3, h4⟩ := h.ex
  refine (aw_key #[.string x.key, .int .i64 x.k, .int .i64 x.d, .int .u64 x.tk, .int .i64 x.c, .int .i64 x.st, .string x.loc, cv, tv, .int .i64 x.am, .int .i64 x.fr, .int .i64 x.tt] g gq gd x.key h.wf.key W h1 h2 h.ne rfl).mono ?_
  rintro e w' ⟨rfl, k1, k2, k3⟩
  refine ⟨rfl, ⟨⟨cv, tv, ?_, k2, own_turn h3 h1 h2 (by decide) (by decide) k3, own_turn h4 h1 h2 (by decide) (by decide) k3⟩, Turn.below h.b h.b.size k3 (by rintro i (rfl | rfl); exact h.lo.1; exact h.lo.2), h.ne, h.lo, Rq.partC_wf h.wf⟩, turn_kf h1 h2 k3⟩
  rw [k1]
  first | rfl | (simp only [Rq.partB, Bool.and_assoc]; rfl)

theorem wst_on {w0 W : World} {g gq : Nat} {gd : Bool} {x : Rqt} (h : WSt w0 g gq gd x W) : Calls Tryz.prog 132 #[.pointer (some ⟨g, 0, none⟩)] W fun e w' => e = .returned (.tuple #[]) ∧ WSt w0 g gq (gd && Rq.partB 132 x) (Rq.partC 132 x) w' ∧ Rq.KF W w' := by
  obtain ⟨cv, tv, h1, h2, h3, h4⟩ := h.ex
  refine (aw_on #[.string x.key, .int .i64 x.k, .int .i64 x.d, .int .u64 x.tk, .int .i64 x.c, .int .i64 x.st, .string x.loc, cv, tv, .int .i64 x.am, .int .i64 x.fr, .int .i64 x.tt] g gq gd x.d W h1 h2 h.ne rfl).mono ?_
  rintro e w' ⟨rfl, k1, k2, k3⟩
  refine ⟨rfl, ⟨⟨cv, tv, ?_, k2, own_turn h3 h1 h2 (by decide) (by decide) k3, own_turn h4 h1 h2 (by decide) (by decide) k3⟩, Turn.below h.b h.b.size k3 (by rintro i (rfl | rfl); exact h.lo.1; exact h.lo.2), h.ne, h.lo, Rq.partC_wf h.wf⟩, turn_kf h1 h2 k3⟩
  rw [k1]
  first | rfl | (simp only [Rq.partB, Bool.and_assoc]; rfl)

theorem wst_of {w0 W : World} {g gq : Nat} {gd : Bool} {x : Rqt} (h : WSt w0 g gq gd x W) : Calls Tryz.prog 136 #[.pointer (some ⟨g, 0, none⟩)] W fun e w' => e = .returned (.tuple #[]) ∧ WSt w0 g gq (gd && Rq.partB 136 x) (Rq.partC 136 x) w' ∧ Rq.KF W w' := by
  obtain ⟨cv, tv, h1, h2, h3, h4⟩ := h.ex
  refine (aw_of #[.string x.key, .int .i64 x.k, .int .i64 x.d, .int .u64 x.tk, .int .i64 x.c, .int .i64 x.st, .string x.loc, cv, tv, .int .i64 x.am, .int .i64 x.fr, .int .i64 x.tt] g gq gd x.tk W h1 h2 h.ne rfl h.wf.tk).mono ?_
  rintro e w' ⟨rfl, k1, k2, k3⟩
  refine ⟨rfl, ⟨⟨cv, tv, ?_, k2, own_turn h3 h1 h2 (by decide) (by decide) k3, own_turn h4 h1 h2 (by decide) (by decide) k3⟩, Turn.below h.b h.b.size k3 (by rintro i (rfl | rfl); exact h.lo.1; exact h.lo.2), h.ne, h.lo, Rq.partC_wf h.wf⟩, turn_kf h1 h2 k3⟩
  rw [k1]
  first | rfl | (simp only [Rq.partB, Bool.and_assoc]; rfl)

theorem wst_coupon {w0 W : World} {g gq : Nat} {gd : Bool} {x : Rqt} (h : WSt w0 g gq gd x W) : Calls Tryz.prog 137 #[.pointer (some ⟨g, 0, none⟩)] W fun e w' => e = .returned (.tuple #[]) ∧ WSt w0 g gq (gd && Rq.partB 137 x) (Rq.partC 137 x) w' ∧ Rq.KF W w' := by
  obtain ⟨cv, tv, h1, h2, h3, h4⟩ := h.ex
  refine (aw_coupon #[.string x.key, .int .i64 x.k, .int .i64 x.d, .int .u64 x.tk, .int .i64 x.c, .int .i64 x.st, .string x.loc, cv, tv, .int .i64 x.am, .int .i64 x.fr, .int .i64 x.tt] g gq gd x.c W h1 h2 h.ne rfl).mono ?_
  rintro e w' ⟨rfl, k1, k2, k3⟩
  refine ⟨rfl, ⟨⟨cv, tv, ?_, k2, own_turn h3 h1 h2 (by decide) (by decide) k3, own_turn h4 h1 h2 (by decide) (by decide) k3⟩, Turn.below h.b h.b.size k3 (by rintro i (rfl | rfl); exact h.lo.1; exact h.lo.2), h.ne, h.lo, Rq.partC_wf h.wf⟩, turn_kf h1 h2 k3⟩
  rw [k1]
  first | rfl | (simp only [Rq.partB, Bool.and_assoc]; rfl)

theorem wst_status {w0 W : World} {g gq : Nat} {gd : Bool} {x : Rqt} (h : WSt w0 g gq gd x W) : Calls Tryz.prog 138 #[.pointer (some ⟨g, 0, none⟩)] W fun e w' => e = .returned (.tuple #[]) ∧ WSt w0 g gq (gd && Rq.partB 138 x) (Rq.partC 138 x) w' ∧ Rq.KF W w' := by
  obtain ⟨cv, tv, h1, h2, h3, h4⟩ := h.ex
  refine (aw_status #[.string x.key, .int .i64 x.k, .int .i64 x.d, .int .u64 x.tk, .int .i64 x.c, .int .i64 x.st, .string x.loc, cv, tv, .int .i64 x.am, .int .i64 x.fr, .int .i64 x.tt] g gq gd x.st W h1 h2 h.ne rfl h.wf.st).mono ?_
  rintro e w' ⟨rfl, k1, k2, k3⟩
  refine ⟨rfl, ⟨⟨cv, tv, ?_, k2, own_turn h3 h1 h2 (by decide) (by decide) k3, own_turn h4 h1 h2 (by decide) (by decide) k3⟩, Turn.below h.b h.b.size k3 (by rintro i (rfl | rfl); exact h.lo.1; exact h.lo.2), h.ne, h.lo, Rq.partC_wf h.wf⟩, turn_kf h1 h2 k3⟩
  rw [k1]
  first | rfl | (simp only [Rq.partB, Bool.and_assoc]; rfl)

theorem wst_amount {w0 W : World} {g gq : Nat} {gd : Bool} {x : Rqt} (h : WSt w0 g gq gd x W) : Calls Tryz.prog 139 #[.pointer (some ⟨g, 0, none⟩)] W fun e w' => e = .returned (.tuple #[]) ∧ WSt w0 g gq (gd && Rq.partB 139 x) (Rq.partC 139 x) w' ∧ Rq.KF W w' := by
  obtain ⟨cv, tv, h1, h2, h3, h4⟩ := h.ex
  refine (aw_amount #[.string x.key, .int .i64 x.k, .int .i64 x.d, .int .u64 x.tk, .int .i64 x.c, .int .i64 x.st, .string x.loc, cv, tv, .int .i64 x.am, .int .i64 x.fr, .int .i64 x.tt] g gq gd x.am W h1 h2 h.ne rfl h.wf.am).mono ?_
  rintro e w' ⟨rfl, k1, k2, k3⟩
  refine ⟨rfl, ⟨⟨cv, tv, ?_, k2, own_turn h3 h1 h2 (by decide) (by decide) k3, own_turn h4 h1 h2 (by decide) (by decide) k3⟩, Turn.below h.b h.b.size k3 (by rintro i (rfl | rfl); exact h.lo.1; exact h.lo.2), h.ne, h.lo, Rq.partC_wf h.wf⟩, turn_kf h1 h2 k3⟩
  rw [k1]
  first | rfl | (simp only [Rq.partB, Bool.and_assoc]; rfl)

theorem wst_locator {w0 W : World} {g gq : Nat} {gd : Bool} {x : Rqt} (h : WSt w0 g gq gd x W) : Calls Tryz.prog 133 #[.pointer (some ⟨g, 0, none⟩)] W fun e w' => e = .returned (.tuple #[]) ∧ WSt w0 g gq (gd && Rq.partB 133 x) (Rq.partC 133 x) w' ∧ Rq.KF W w' := by
  obtain ⟨cv, tv, h1, h2, h3, h4⟩ := h.ex
  refine (aw_locator #[.string x.key, .int .i64 x.k, .int .i64 x.d, .int .u64 x.tk, .int .i64 x.c, .int .i64 x.st, .string x.loc, cv, tv, .int .i64 x.am, .int .i64 x.fr, .int .i64 x.tt] g gq gd x.loc W h1 h2 h.ne rfl h.wf.loc).mono ?_
  rintro e w' ⟨rfl, k1, k2, k3⟩
  refine ⟨rfl, ⟨⟨cv, tv, ?_, k2, own_turn h3 h1 h2 (by decide) (by decide) k3, own_turn h4 h1 h2 (by decide) (by decide) k3⟩, Turn.below h.b h.b.size k3 (by rintro i (rfl | rfl); exact h.lo.1; exact h.lo.2), h.ne, h.lo, Rq.partC_wf h.wf⟩, turn_kf h1 h2 k3⟩
  rw [k1]
  first | rfl | (simp only [Rq.partB, Bool.and_assoc]; rfl)

theorem wst_days {w0 W : World} {g gq : Nat} {gd : Bool} {x : Rqt} (h : WSt w0 g gq gd x W) : Calls Tryz.prog 141 #[.pointer (some ⟨g, 0, none⟩)] W fun e w' => e = .returned (.tuple #[]) ∧ WSt w0 g gq (gd && Rq.partB 141 x) (Rq.partC 141 x) w' ∧ Rq.KF W w' := by
  obtain ⟨cv, tv, h1, h2, h3, h4⟩ := h.ex
  refine (aw_days #[.string x.key, .int .i64 x.k, .int .i64 x.d, .int .u64 x.tk, .int .i64 x.c, .int .i64 x.st, .string x.loc, cv, tv, .int .i64 x.am, .int .i64 x.fr, .int .i64 x.tt] g gq gd x.fr x.tt W h1 h2 h.ne rfl rfl).mono ?_
  rintro e w' ⟨rfl, k1, k2, k3⟩
  refine ⟨rfl, ⟨⟨cv, tv, ?_, k2, own_turn h3 h1 h2 (by decide) (by decide) k3, own_turn h4 h1 h2 (by decide) (by decide) k3⟩, Turn.below h.b h.b.size k3 (by rintro i (rfl | rfl); exact h.lo.1; exact h.lo.2), h.ne, h.lo, Rq.partC_wf h.wf⟩, turn_kf h1 h2 k3⟩
  rw [k1]
  first | rfl | (simp only [Rq.partB, Bool.and_assoc]; rfl)

attribute [local go_sem ↓] Rq_execLoad Rq_execStore

attribute [local go_sem] Rq_load Rq_store loL_drew okL_drew there_sc World.there_drew

attribute [local irreducible] Rq.mayRq Rq.nameL Rq.partsF Rq.runG Rq.runX eqRq

theorem wrun_any {w0 W : World} {g gq : Nat} {x : Rqt} (h : WSt w0 g gq true x W) (hst : ∀ f ∈ Rq.partsF x.k, ∀ (w0 : World) (g gq : Nat) (gd : Bool) (y : Rqt) (W : World), WSt w0 g gq gd y W → Calls Tryz.prog f #[.pointer (some ⟨g, 0, none⟩)] W fun e w' => e = .returned (.tuple #[]) ∧ WSt w0 g gq (gd && Rq.partB f y) (Rq.partC f y) w' ∧ Rq.KF W w') : Calls Tryz.prog 72 #[.pointer (some ⟨g, 0, none⟩)] W fun e w' => e = .returned (.tuple #[]) ∧ WSt w0 g gq (Rq.runG (Rq.partsF x.k) true x) (Rq.runX (Rq.partsF x.k) x) w' := by
  obtain ⟨cv, tv, h1, h2, h3, h4⟩ := h.ex
  have hc := arun_chain g gq x.k _ _ (fun j W => WSt w0 g gq (Rq.runG ((Rq.partsF x.k).take j) true x) (Rq.runX ((Rq.partsF x.k).take j) x) W) W h1 h2 rfl rfl
    (fun W1 hW => by rw [List.take_zero]; unfold Rq.runG Rq.runX; exact wst0 h hW)
    (fun j f W1 hj hs => by
      refine (hst f (List.mem_of_getElem? hj) w0 g gq _ _ W1 hs).mono ?_
      rintro e w' ⟨rfl, k1, k2⟩
      refine ⟨rfl, ?_, k2⟩
      rw [take_sn hj, Rq.runG_snoc, Rq.runX_snoc]
      exact k1)
  refine hc.mono ?_
  rintro e w' ⟨rfl, hs⟩
  rw [List.take_length] at hs
  exact ⟨rfl, hs⟩
set_option maxRecDepth 8000 in
set_option maxHeartbeats 2000000 in
theorem rqMay_any (x : Rqt) (hw : x.wf) (p q : Option Addr) (n cap m cap2 : Nat) (w : World) (hc : LS Cpn.cells 6 w (.slice p n cap) x.cs) (ht : LS Txx.cells 2 w (.slice q m cap2) x.xs) (h1 : x.cs.length ≤ 1073741824) (h2 : x.xs.length ≤ 1073741824) (hst : ∀ f ∈ Rq.partsF x.k, ∀ (w0 : World) (g gq : Nat) (gd : Bool) (y : Rqt) (W : World), WSt w0 g gq gd y W → Calls Tryz.prog f #[.pointer (some ⟨g, 0, none⟩)] W fun e w' => e = .returned (.tuple #[]) ∧ WSt w0 g gq (gd && Rq.partB f y) (Rq.partC f y) w' ∧ Rq.KF W w') :
    Calls Tryz.prog 22 #[.agg #[.string x.key, .int .i64 x.k, .int .i64 x.d, .int .u64 x.tk, .int .i64 x.c, .int .i64 x.st, .string x.loc, .slice p n cap, .slice q m cap2, .int .i64 x.am, .int .i64 x.fr, .int .i64 x.tt]] w fun e w' => e = .returned (.bool (Rq.mayRq x)) ∧ Below w.heap.size w w' := by
  obtain ⟨nm, hnm⟩ : ∃ b, (Rq.nameL x.k).isEmpty = b := ⟨_, rfl⟩
  have hmay : Rq.mayRq x = (!nm && (Rq.runG (Rq.partsF x.k) true x && eqRq (Rq.runX (Rq.partsF x.k) x) (Rq.zeroK x.k))) := by unfold Rq.mayRq; rw [hnm]
  rw [hmay]
  clear hmay
  have HNM := Lib.hid (fun W => rqName_any x.k W)
  have HNE : Hid ((Rq.nameL x.k).isEmpty = nm) := Lib.hid hnm
  have hs1 : ((⟨(Rq.nameL x.k).toArray⟩ : ByteArray).toList = []) = (nm = true) := by rw [ByteArray.toList_eq, ← hnm, List.isEmpty_iff]
  have hs2 : (⟨(Rq.nameL x.k).toArray⟩ : ByteArray).toList.isEmpty = nm := by rw [Bool.eq_iff_iff, List.isEmpty_iff, hs1]
  clear hnm
  generalize (⟨(Rq.nameL x.k).toArray⟩ : ByteArray) = NM at *
  have HLC := Lib.hid hc; have HLT := Lib.hid ht; have HL1 := Lib.hid h1; have HL2 := Lib.hid h2; have HWF := Lib.hid hw; have HSTP := Lib.hid hst
  clear hc ht h1 h2 hw hst
  have HRA := Lib.hid (new_rowW w (.cells #[.string x.key, .int .i64 x.k, .int .i64 x.d, .int .u64 x.tk, .int .i64 x.c, .int .i64 x.st, .string x.loc, .slice p n cap, .slice q m cap2, .int .i64 x.am, .int .i64 x.fr, .int .i64 x.tt] 57 (0, 0)) _ rfl)
  have HB := Lib.hid ((Below.refl w.heap.size w).alloc (Nat.le_refl _) (.cells #[.string x.key, .int .i64 x.k, .int .i64 x.d, .int .u64 x.tk, .int .i64 x.c, .int .i64 x.st, .string x.loc, .slice p n cap, .slice q m cap2, .int .i64 x.am, .int .i64 x.fr, .int .i64 x.tt] 57 (0, 0)))
  have kc := fun j => cell_of_row _ w.heap.size j _ _ _ HRA.out
  go_enter Tryz.func22, Tryz.ntmps22
  go_wp2_with fail
  clear kc
  refine (HNM.out _).mono ?_
  rintro e w1 ⟨rfl, hb⟩
  replace HRA := Lib.hid ((hb.block _ (block_lt HRA.out)).trans HRA.out)
  replace HB := Lib.hid (HB.out.trans (hb.mono HB.out.size))
  clear hb HNM
  cases nm
  case true =>
    go_wp2
    go_ret
    exact ⟨rfl, HB.out⟩
  case false =>
    have HB1 := HB
    have HB := Lib.hid (Below.refl w1.heap.size w1)
    have HLC1 := Lib.hid (HLC.out.below HB1.out); have HLT1 := Lib.hid (HLT.out.below HB1.out)
    clear HLC HLT
    obtain ⟨f1, f2⟩ := row_loT 12 HRA.out rfl rfl
    go_wp2_with fail
    clear f1 f2
    refine (rqClone_any x p q n cap m cap2 _ HLC1.out HLT1.out HL1.out HL2.out).mono ?_
    rintro e w2 ⟨cv, tv, rfl, ho1, ho2, hb⟩
    have HO1 := Lib.hid ho1; have HO2 := Lib.hid ho2
    replace HB := Lib.hid (HB.out.trans hb)
    clear hb ho1 ho2
    obtain ⟨q1, z1, hv1⟩ := rec_formT HO1.out
    obtain ⟨q2, z2, hv2⟩ := rec_formT HO2.out
    subst hv1 hv2
    have tc := there_newT (w := w2) (zs := [.string ⟨#[]⟩, .int .i64 0, .int .i64 0, .int .u64 0, .int .i64 0, .int .i64 0, .string ⟨#[]⟩, .slice none 0 0, .slice none 0 0, .int .i64 0, .int .i64 0, .int .i64 0]) (e := 57) (n := 12) rfl
    have c6n : ([.string x.key, .int .i64 x.k, .int .i64 x.d, .int .u64 x.tk, .int .i64 x.c, .int .i64 x.st, .string x.loc, .slice q1 x.cs.length z1, .slice q2 x.xs.length z2, .int .i64 x.am, .int .i64 x.fr, .int .i64 x.tt] : List Value).length = 12 := rfl
    have c6c : ([.string x.key, .int .i64 x.k, .int .i64 x.d, .int .u64 x.tk, .int .i64 x.c, .int .i64 x.st, .string x.loc, .slice q1 x.cs.length z1, .slice q2 x.xs.length z2, .int .i64 x.am, .int .i64 x.fr, .int .i64 x.tt] : List Value).all (·.oneCell') = true := rfl
    go_upto_region 4 with fail
    have HP := Lib.hid (putRec (W := w2) (e := 57) (zs := [.string ⟨#[]⟩, .int .i64 0, .int .i64 0, .int .u64 0, .int .i64 0, .int .i64 0, .string ⟨#[]⟩, .slice none 0 0, .slice none 0 0, .int .i64 0, .int .i64 0, .int .i64 0]) (cs := [.string x.key, .int .i64 x.k, .int .i64 x.d, .int .u64 x.tk, .int .i64 x.c, .int .i64 x.st, .string x.loc, .slice q1 x.cs.length z1, .slice q2 x.xs.length z2, .int .i64 x.am, .int .i64 x.fr, .int .i64 x.tt]) rfl)
    replace HO1 := Lib.hid (recs_below HO1.out HP.out.2)
    replace HO2 := Lib.hid (recs_below HO2.out HP.out.2)
    have HLQ : Hid (w1.heap.size ≤ w2.heap.size) := Lib.hid HB.out.size
    replace HB := Lib.hid (HB.out.trans (HP.out.2.mono HB.out.size))
    have HRQ := Lib.hid HP.out.1
    clear HP tc c6n c6c
    generalize (w2.alloc (.cells #[.string ⟨#[]⟩, .int .i64 0, .int .i64 0, .int .u64 0, .int .i64 0, .int .i64 0, .string ⟨#[]⟩, .slice none 0 0, .slice none 0 0, .int .i64 0, .int .i64 0, .int .i64 0] 57 (0, 0))).setCells w2.heap.size 0 [.string x.key, .int .i64 x.k, .int .i64 x.d, .int .u64 x.tk, .int .i64 x.c, .int .i64 x.st, .string x.loc, .slice q1 x.cs.length z1, .slice q2 x.xs.length z2, .int .i64 x.am, .int .i64 x.fr, .int .i64 x.tt] = w3 at *
    generalize w2.heap.size = gq at *
    go_upto_region 5 with fail
    have hba := (Below.refl w3.heap.size w3).alloc (Nat.le_refl _) (.cells #[.pointer none, .pointer none, .bool true, .pointer (some ⟨gq, 0, none⟩)] 125 (0, 0))
    have HRG := Lib.hid (new_rowW w3 (.cells #[.pointer none, .pointer none, .bool true, .pointer (some ⟨gq, 0, none⟩)] 125 (0, 0)) _ rfl)
    have HNG : Hid (gq ≠ w3.heap.size) := Lib.hid (by have := block_lt HRQ.out; omega)
    have HLG : Hid (w1.heap.size ≤ w3.heap.size) := Lib.hid HB.out.size
    replace HO1 := Lib.hid (recs_below HO1.out hba)
    replace HO2 := Lib.hid (recs_below HO2.out hba)
    replace HRQ := Lib.hid ((hba.block _ (block_lt HRQ.out)).trans HRQ.out)
    replace HB := Lib.hid (HB.out.trans (hba.mono HB.out.size))
    clear hba
    generalize w3.alloc (.cells #[.pointer none, .pointer none, .bool true, .pointer (some ⟨gq, 0, none⟩)] 125 (0, 0)) = w4 at *
    generalize w3.heap.size = g at *
    have HS0 : Hid (WSt w1 g gq true x w4) := Lib.hid ⟨⟨_, _, HRG.out, HRQ.out, HO1.out, HO2.out⟩, HB.out, HNG.out, ⟨HLG.out, HLQ.out⟩, HWF.out⟩
    have HRUN := Lib.hid (wrun_any HS0.out HSTP.out)
    clear HO1 HO2 HRG HRQ HB HSTP
    go_wp2_with fail
    refine HRUN.out.mono ?_
    rintro e w5 ⟨rfl, hs5⟩
    obtain ⟨cv, tv, k1, k2, k3, k4⟩ := hs5.ex
    obtain ⟨q3, z3, hv3⟩ := rec_formT k3
    obtain ⟨q4, z4, hv4⟩ := rec_formT k4
    subst hv3 hv4
    have HRA5 := Lib.hid ((hs5.b.block _ (block_lt HRA.out)).trans HRA.out)
    have HB5 := Lib.hid (HB1.out.trans (hs5.b.mono HB1.out.size))
    obtain ⟨y, hy⟩ : ∃ y, Rq.runX (Rq.partsF x.k) x = y := ⟨_, rfl⟩
    obtain ⟨gd, hgd⟩ : ∃ y, Rq.runG (Rq.partsF x.k) true x = y := ⟨_, rfl⟩
    rw [hgd] at k1
    rw [hy] at k2 k3 k4
    have HY := Lib.hid hy; have HGD := Lib.hid hgd
    obtain ⟨qe, hqe⟩ : ∃ q, eqRq y (Rq.zeroK x.k) = q := ⟨_, rfl⟩
    have HQE := Lib.hid hqe
    have HSA := Lib.hid (fun (u : Later w5) => rqSame_any y (Rq.zeroK x.k) q3 q4 none none y.cs.length z3 y.xs.length z4 0 0 0 0 u.val ((LS.of_own k3 Cpn.cells_length (by decide)).below u.prop) ((LS.of_own k4 Txx.cells_length (by decide)).below u.prop) (LS.nil _) (LS.nil _))
    have f1 := fun (u : Later w5) => (row_loT 12 (g := gq) ((u.prop.block _ (block_lt k2)).trans k2) rfl rfl).1
    have f2 := fun (u : Later w5) => (row_loT 12 (g := gq) ((u.prop.block _ (block_lt k2)).trans k2) rfl rfl).2
    have c1 := fun (u : Later w5) => (cell_of_row u.val g 2 _ _ _ ((u.prop.block _ (block_lt k1)).trans k1))
    have c2 := fun (u : Later w5) => (cell_of_row u.val w.heap.size 1 _ _ _ ((u.prop.block _ (block_lt HRA5.out)).trans HRA5.out))
    have c3 := fun (u : Later w5) => (cell_of_row u.val g 3 _ _ _ ((u.prop.block _ (block_lt k1)).trans k1))
    rw [hqe] at HSA
    unfold Rq.zeroK at HSA
    dsimp only [List.length_nil] at HSA
    clear hs5 k1 k2 k3 k4 hy hgd hqe HRUN HS0
    have f1 := f1 ⟨w5, Below.refl _ _⟩; have f2 := f2 ⟨w5, Below.refl _ _⟩; have c1 := c1 ⟨w5, Below.refl _ _⟩; have c2 := c2 ⟨w5, Below.refl _ _⟩; have c3 := c3 ⟨w5, Below.refl _ _⟩; have HSA := Lib.hid (HSA.out ⟨w5, Below.refl _ _⟩)
    dsimp only at f1 f2 c1 c2 c3
    cases gd
    case false =>
      go_wp2_with fail
      go_ret
      exact ⟨ret_bool (by rw [HGD.out]; simp), HB5.out⟩
    case true =>
      go_wp2_with fail
      refine HSA.out.mono ?_
      rintro e w6 ⟨rfl, hb⟩
      have HB6 := Lib.hid (HB5.out.trans (hb.mono HB5.out.size))
      clear f1 f2 c1 c2 c3 hb
      go_wp2
      go_ret
      exact ⟨ret_bool (by rw [HGD.out, HY.out, HQE.out]; simp), HB6.out⟩
end Go.Proofs.YtbmphlpmipkpcaaGreat
