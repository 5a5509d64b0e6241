/- Contract: may a ticket be (ticket.May). -/
import Derived.Test.YtmadkfahkbdibaaTkL
set_option linter.unusedVariables false
set_option linter.unusedSimpArgs false
namespace Go.Proofs.Ytmadkfahkbdibaa
open Go.RowKit

theorem row_loT {w : World} {g : Nat} {cs : List Value} {e : TypeId} (n : Nat) (h : w.heap[g]? = some (.cells cs.toArray e (0, 0))) {ds : List Value} (hd : cs.take n = ds) (hn : ds.length = n) : loL n w g 0 = ds ∧ okL n w g 0 :=
  loL_of (fun j v hv => by
    rw [← hd] at hv
    have hj : j < n := by have := (List.getElem?_eq_some_iff.1 hv).1; rw [List.length_take] at this; omega
    rw [List.getElem?_take, if_pos hj] at hv
    rw [Nat.zero_add]
    exact (cell_of_row _ _ j _ _ _ h).trans (by rw [List.getElem?_toArray]; exact hv)) hn
theorem there_newT {w : World} {zs : List Value} {e : TypeId} {n : Nat} (h : zs.length = n) : (w.alloc (.cells zs.toArray e (0, 0))).there w.heap.size 0 n := fun j hj => by
  refine ⟨?_, ?_⟩
  · rw [cell_of_row _ _ _ _ _ _ (new_rowW w (.cells zs.toArray e (0, 0)) _ rfl)]; simp; omega
  · exact frozen_of_row _ _ _ _ _ (new_rowW w (.cells zs.toArray e (0, 0)) _ rfl)

theorem Tk_execLoad (ρ : Operand → Value) (dst : Option Tmp) (x : Operand) (ty : TypeId) (pos : String) (after : Array Edge) (guard : Option (Nat × Bool)) :
    execOp ρ { dst, op := .load 27 x, type := ty, pos, after, guard } = recLoad 27 (ρ x) := rfl
theorem Tk_execStore (ρ : Operand → Value) (dst : Option Tmp) (x y : Operand) (ty : TypeId) (pos : String) (after : Array Edge) (guard : Option (Nat × Bool)) :
    execOp ρ { dst, op := .store 27 x y, type := ty, pos, after, guard } = recStore 27 (ρ x) (ρ y) := rfl
theorem Tk_load (w : World) (b o : Nat) (h : okL 11 w b o) : (recLoad 27 (.pointer (some ⟨b, o, none⟩))).run Try.prog w = .ok (.value (.agg (loL 11 w b o).toArray)) w := by
  unfold recLoad
  rw [Sem.run_bind, run_load_rec 11 Try.underlying27 rfl (by kernel_rfl) w b o h]
  rfl
theorem Tk_store (w : World) (b o : Nat) (cs : List Value) (ht : w.there b o 11) (hn : cs.length = 11) (h1 : cs.all (·.oneCell') = true) :
    (recStore 27 (.pointer (some ⟨b, o, none⟩)) (.agg cs.toArray)).run Try.prog w = .ok .skip (w.setCells b o cs) := by
  unfold recStore
  rw [Sem.run_bind, run_store_rec 11 (by kernel_rfl) w b o cs ht hn h1]
  rfl
attribute [local go_sem ↓] Tk_execLoad
attribute [local go_sem] Tk_load loL_drew okL_drew
theorem all_not {l : List Cpn} {q : Cpn → Bool} : l.any (fun x => !q x) = true ↔ ∃ x ∈ l, (fun x => !q x) x = true := by simp
set_option maxRecDepth 4000 in
set_option maxHeartbeats 4000000 in
theorem tmay_any (t : Tk) (c x h : Sl) (w : World) (ts : TS w t c x h) : Calls Try.prog 17 #[.agg #[.int .u64 t.num, .string t.loc, .int .i64 t.iss, .slice c.p c.n c.c, .slice x.p x.n x.c, .int .u64 t.prev, .int .u64 t.org, .int .u64 t.fst, .int .i64 t.vou, .int .i64 t.posts, .slice h.p h.n h.c]] w fun e w' => e = .returned (.bool (Tkt.mayB t)) ∧ Below w.heap.size w w' := by
  have HTS := Lib.hid ts
  have HMH := Lib.hid (fun W => mayHead_any t c x h ts.wf W)
  have HMT := Lib.hid (fun W (hW : Below w.heap.size w W) => tmayTaxes_any t.ts x.p x.n x.c W (ts.below hW).ts)
  have HTO := Lib.hid (fun W (hW : Below w.heap.size w W) => told_any t c x h 1000000 W (ts.below hW))
  have HCF := Lib.hid (fun W (hW : Below w.heap.size w W) hc => hasCp_any t.cs (fun y => !Tkt.cpnB t.num y) (t.cs.any (fun y => !Tkt.cpnB t.num y)) all_not c.p c.n c.c w.heap.size W (ts.below hW).cs hc)
  have HC1 := Lib.hid (fun (y : Cpn) (hy : y ∈ t.cs) W hx => may1_any t c x h y (ts.wf.cs y hy) ts.wf.num w.heap.size W hx)
  have HB := Lib.hid ((Below.refl w.heap.size w).alloc (Nat.le_refl _) (.cells #[.int .u64 t.num, .string t.loc, .int .i64 t.iss, .slice c.p c.n c.c, .slice x.p x.n x.c, .int .u64 t.prev, .int .u64 t.org, .int .u64 t.fst, .int .i64 t.vou, .int .i64 t.posts, .slice h.p h.n h.c] 27 (0, 0)))
  have HR := Lib.hid (new_rowW w (.cells #[.int .u64 t.num, .string t.loc, .int .i64 t.iss, .slice c.p c.n c.c, .slice x.p x.n x.c, .int .u64 t.prev, .int .u64 t.org, .int .u64 t.fst, .int .i64 t.vou, .int .i64 t.posts, .slice h.p h.n h.c] 27 (0, 0)) _ rfl)
  have hc := fun j => cell_of_row _ w.heap.size j _ _ _ HR.out
  obtain ⟨f1, f2⟩ := row_loT 11 HR.out rfl rfl
  have l1 := ts.cs.length
  have l2 := ts.hs.length
  unfold maxLen at l1 l2
  obtain ⟨l1, l1', l1''⟩ := l1
  obtain ⟨l2, l2', l2''⟩ := l2
  have HTOP : Hid (Tkt.headB t = true → 0 ≤ t.iss) := Lib.hid (fun hh => by unfold Tkt.headB Tkt.dayB at hh; simp at hh; omega)
  have HFIN : Hid (Tkt.mayB t = (Tkt.headB t && (decide (1 ≤ c.n) && decide (c.n ≤ 4) && decide (h.n ≤ 60)) && !(t.cs.any fun y => !Tkt.cpnB t.num y) && (Tkt.taxB 1 t.ts && decide (t.ts.length ≤ 4)) && Tkt.histB 1000000 t)) := Lib.hid (by
    unfold Tkt.mayB Tkt.lensB
    rw [l1, l2, Tkt.histB_any 0 1000000, ← List.not_all_eq_any_not, Bool.not_not]
    generalize decide (1 ≤ t.cs.length) = b1
    generalize decide (t.cs.length ≤ 4) = b2
    generalize decide (t.ts.length ≤ 4) = b3
    generalize decide (t.hs.length ≤ 60) = b4
    cases b1 <;> cases b2 <;> cases b3 <;> cases b4 <;> cases Tkt.headB t <;> cases (t.cs.all fun y => Tkt.cpnB t.num y) <;> cases Tkt.taxB 1 t.ts <;> cases Tkt.histB 1000000 t <;> rfl)
  have H1L : Hid (c.n = t.cs.length) := Lib.hid l1
  clear ts l1 l2
  generalize Tkt.mayB t = bv at *
  generalize Tkt.headB t = hd at *
  generalize (t.cs.any fun y => !Tkt.cpnB t.num y) = an at *
  generalize (Tkt.taxB 1 t.ts && decide (t.ts.length ≤ 4)) = tx at *
  generalize Tkt.histB 1000000 t = hi at *
  go_enter Try.func17, Try.ntmps17
  go_wp2_with (first | (go_at_call 55; refine (HMH.out _).mono ?_; rintro e wn ⟨rfl, hbn⟩; have HB := Lib.hid (HB.out.trans (hbn.mono HB.out.size)); have HR := Lib.hid ((hbn.block _ (block_lt HR.out)).trans HR.out); have hc := fun j => cell_of_row _ w.heap.size j _ _ _ HR.out; obtain ⟨f1, f2⟩ := row_loT 11 HR.out rfl rfl; clear hbn) | (go_at_call 56; refine (HMT.out _ HB.out).mono ?_; rintro e wn ⟨rfl, hbn⟩; have HB := Lib.hid (HB.out.trans (hbn.mono HB.out.size)); have HR := Lib.hid ((hbn.block _ (block_lt HR.out)).trans HR.out); have hc := fun j => cell_of_row _ w.heap.size j _ _ _ HR.out; obtain ⟨f1, f2⟩ := row_loT 11 HR.out rfl rfl; clear hbn) | (go_at_call 57; refine (HCF.out _ HB.out (fun y hy W hW => HC1.out y hy W ((hW.block _ (block_lt HR.out)).trans HR.out))).mono ?_; rintro e wn ⟨rfl, hbn⟩; have HB := Lib.hid (HB.out.trans (hbn.mono HB.out.size)); have HR := Lib.hid ((hbn.block _ (block_lt HR.out)).trans HR.out); have hc := fun j => cell_of_row _ w.heap.size j _ _ _ HR.out; obtain ⟨f1, f2⟩ := row_loT 11 HR.out rfl rfl; clear hbn) | (go_at_call 60; refine (HTO.out _ HB.out (by have := H1L.out; omega) (by have := H1L.out; omega) (HTOP.out (by simp_all))).mono ?_; rintro e wn ⟨⟨v, thn, rfl, -, -⟩, hbn⟩; have HB := Lib.hid (HB.out.trans (hbn.mono HB.out.size)); have HR := Lib.hid ((hbn.block _ (block_lt HR.out)).trans HR.out); have hc := fun j => cell_of_row _ w.heap.size j _ _ _ HR.out; obtain ⟨f1, f2⟩ := row_loT 11 HR.out rfl rfl; clear hbn))
  all_goals
    go_ret
    refine ⟨ret_bool ?_, HB.out⟩
    rw [HFIN.out, Bool.eq_iff_iff]
    simp_all
    try omega
    try (intro g1 g2 g3 g4 g5; simp_all; omega)
end Go.Proofs.Ytmadkfahkbdibaa
