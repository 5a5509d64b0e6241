/- Contract: may a ticket be (ticket.May). A region that draws its order, whose loads read cells that its own last stores write: the loads are taken first; what the loads read is held till the first store. And: contracts of Clone for a ticket's lists. -/
import Derived.Test.YtbmphlpmipkpcaaGreatRnm6
import Derived.Test.YtbmphlpmipkpcaaGreatRnm17
import Derived.Deep.RegionHeld

section
set_option linter.unusedVariables false
set_option linter.unusedSimpArgs false
namespace Go.Proofs.YtbmphlpmipkpcaaGreat
open Go.RowKit

theorem Tk_execLoad (ρ : Operand → Value) (dst : Option Tmp) (x : Operand) (ty : TypeId) (pos : String) (after : Array Edge) (guard : Option (Nat × Bool)) :
    execOp ρ { dst, op := .load 27 x, type := ty, pos, after, guard } = recLoad 27 (ρ x) := rfl
theorem Tk_execStore (ρ : Operand → Value) (dst : Option Tmp) (x y : Operand) (ty : TypeId) (pos : String) (after : Array Edge) (guard : Option (Nat × Bool)) :
    execOp ρ { dst, op := .store 27 x y, type := ty, pos, after, guard } = recStore 27 (ρ x) (ρ y) := rfl
theorem Tk_load (w : World) (b o : Nat) (h : okL 11 w b o) : (recLoad 27 (.pointer (some ⟨b, o, none⟩))).run Tryz.prog w = .ok (.value (.agg (loL 11 w b o).toArray)) w := by
  unfold recLoad
  rw [Sem.run_bind, run_load_rec 11 Tryz.underlying27 rfl (by kernel_rfl) w b o h]
  rfl
theorem Tk_store (w : World) (b o : Nat) (cs : List Value) (ht : w.there b o 11) (hn : cs.length = 11) (h1 : cs.all (·.oneCell') = true) :
    (recStore 27 (.pointer (some ⟨b, o, none⟩)) (.agg cs.toArray)).run Tryz.prog w = .ok .skip (w.setCells b o cs) := by
  unfold recStore
  rw [Sem.run_bind, run_store_rec 11 (by kernel_rfl) w b o cs ht hn h1]
  rfl
attribute [local go_sem ↓] Tk_execLoad

attribute [local go_sem] Tk_load loL_drew okL_drew

theorem all_not {l : List Cpn} {q : Cpn → Bool} : l.any (fun x => !q x) = true ↔ ∃ x ∈ l, (fun x => !q x) x = true := by simp
set_option maxRecDepth 4000 in
set_option maxHeartbeats 4000000 in
theorem tmay_any (t : Tk) (c x h : Sl) (w : World) (ts : TS w t c x h) : Calls Tryz.prog 94 #[.agg #[.int .u64 t.num, .string t.loc, .int .i64 t.iss, .slice c.p c.n c.c, .slice x.p x.n x.c, .int .u64 t.prev, .int .u64 t.org, .int .u64 t.fst, .int .i64 t.vou, .int .i64 t.posts, .slice h.p h.n h.c]] w fun e w' => e = .returned (.bool (Tkt.mayB t)) ∧ Below w.heap.size w w' := by
  have HTS := Lib.hid ts
  have HMH := Lib.hid (fun W => mayHead_any t c x h ts.wf W)
  have HMT := Lib.hid (fun W (hW : Below w.heap.size w W) => tmayTaxes_any t.ts x.p x.n x.c W (ts.below hW).ts)
  have HTO := Lib.hid (fun W (hW : Below w.heap.size w W) => told_any t c x h 1000000 W (ts.below hW))
  have HCF := Lib.hid (fun W (hW : Below w.heap.size w W) hc => hasCp_any t.cs (fun y => !Tkt.cpnB t.num y) (t.cs.any (fun y => !Tkt.cpnB t.num y)) all_not c.p c.n c.c w.heap.size W (ts.below hW).cs hc)
  have HC1 := Lib.hid (fun (y : Cpn) (hy : y ∈ t.cs) W hx => may1_any t c x h y (ts.wf.cs y hy) ts.wf.num w.heap.size W hx)
  have HB := Lib.hid ((Below.refl w.heap.size w).alloc (Nat.le_refl _) (.cells #[.int .u64 t.num, .string t.loc, .int .i64 t.iss, .slice c.p c.n c.c, .slice x.p x.n x.c, .int .u64 t.prev, .int .u64 t.org, .int .u64 t.fst, .int .i64 t.vou, .int .i64 t.posts, .slice h.p h.n h.c] 27 (0, 0)))
  have HR := Lib.hid (new_rowW w (.cells #[.int .u64 t.num, .string t.loc, .int .i64 t.iss, .slice c.p c.n c.c, .slice x.p x.n x.c, .int .u64 t.prev, .int .u64 t.org, .int .u64 t.fst, .int .i64 t.vou, .int .i64 t.posts, .slice h.p h.n h.c] 27 (0, 0)) _ rfl)
  have hc := fun j => cell_of_row _ w.heap.size j _ _ _ HR.out
  obtain ⟨f1, f2⟩ := row_loT 11 HR.out rfl rfl
  have l1 := ts.cs.length
  have l2 := ts.hs.length
  unfold maxLen at l1 l2
  obtain ⟨l1, l1', l1''⟩ := l1
  obtain ⟨l2, l2', l2''⟩ := l2
  have HTOP : Hid (Tkt.headB t = true → 0 ≤ t.iss) := Lib.hid (fun hh => by unfold Tkt.headB Tkt.dayB at hh; simp at hh; omega)
  have HFIN : Hid (Tkt.mayB t = (Tkt.headB t && (decide (1 ≤ c.n) && decide (c.n ≤ 4) && decide (h.n ≤ 60)) && !(t.cs.any fun y => !Tkt.cpnB t.num y) && (Tkt.taxB 1 t.ts && decide (t.ts.length ≤ 4)) && Tkt.histB 1000000 t)) := Lib.hid (by
    unfold Tkt.mayB Tkt.lensB
    rw [l1, l2, Tkt.histB_any 0 1000000, ← List.not_all_eq_any_not, Bool.not_not]
    generalize decide (1 ≤ t.cs.length) = b1
    generalize decide (t.cs.length ≤ 4) = b2
    generalize decide (t.ts.length ≤ 4) = b3
    generalize decide (t.hs.length ≤ 60) = b4
    cases b1 <;> cases b2 <;> cases b3 <;> cases b4 <;> cases Tkt.headB t <;> cases (t.cs.all fun y => Tkt.cpnB t.num y) <;> cases Tkt.taxB 1 t.ts <;> cases Tkt.histB 1000000 t <;> rfl)
  have H1L : Hid (c.n = t.cs.length) := Lib.hid l1
  clear ts l1 l2
  generalize Tkt.mayB t = bv at *
  generalize Tkt.headB t = hd at *
  generalize (t.cs.any fun y => !Tkt.cpnB t.num y) = an at *
  generalize (Tkt.taxB 1 t.ts && decide (t.ts.length ≤ 4)) = tx at *
  generalize Tkt.histB 1000000 t = hi at *
  go_enter Tryz.func94, Tryz.ntmps94
  go_wp2_with (first | (go_at_call 159; refine (HMH.out _).mono ?_; rintro e wn ⟨rfl, hbn⟩; have HB := Lib.hid (HB.out.trans (hbn.mono HB.out.size)); have HR := Lib.hid ((hbn.block _ (block_lt HR.out)).trans HR.out); have hc := fun j => cell_of_row _ w.heap.size j _ _ _ HR.out; obtain ⟨f1, f2⟩ := row_loT 11 HR.out rfl rfl; clear hbn) | (go_at_call 160; refine (HMT.out _ HB.out).mono ?_; rintro e wn ⟨rfl, hbn⟩; have HB := Lib.hid (HB.out.trans (hbn.mono HB.out.size)); have HR := Lib.hid ((hbn.block _ (block_lt HR.out)).trans HR.out); have hc := fun j => cell_of_row _ w.heap.size j _ _ _ HR.out; obtain ⟨f1, f2⟩ := row_loT 11 HR.out rfl rfl; clear hbn) | (go_at_call 161; refine (HCF.out _ HB.out (fun y hy W hW => HC1.out y hy W ((hW.block _ (block_lt HR.out)).trans HR.out))).mono ?_; rintro e wn ⟨rfl, hbn⟩; have HB := Lib.hid (HB.out.trans (hbn.mono HB.out.size)); have HR := Lib.hid ((hbn.block _ (block_lt HR.out)).trans HR.out); have hc := fun j => cell_of_row _ w.heap.size j _ _ _ HR.out; obtain ⟨f1, f2⟩ := row_loT 11 HR.out rfl rfl; clear hbn) | (go_at_call 164; refine (HTO.out _ HB.out (by have := H1L.out; omega) (by have := H1L.out; omega) (HTOP.out (by simp_all))).mono ?_; rintro e wn ⟨⟨v, thn, rfl, -, -⟩, hbn⟩; have HB := Lib.hid (HB.out.trans (hbn.mono HB.out.size)); have HR := Lib.hid ((hbn.block _ (block_lt HR.out)).trans HR.out); have hc := fun j => cell_of_row _ w.heap.size j _ _ _ HR.out; obtain ⟨f1, f2⟩ := row_loT 11 HR.out rfl rfl; clear hbn))
  all_goals
    go_ret
    refine ⟨ret_bool ?_, HB.out⟩
    rw [HFIN.out, Bool.eq_iff_iff]
    simp_all
    try omega
    try (intro g1 g2 g3 g4 g5; simp_all; omega)
end Go.Proofs.YtbmphlpmipkpcaaGreat
end

section
set_option linter.unusedVariables false
set_option linter.unusedSimpArgs false
namespace Go.Proofs.YtbmphlpmipkpcaaGreat
open Go.RowKit

section
variable {P : Program} {ops : Array Oper} {Q : Exit → Act → World → Prop} {md : Region.Mode} {C : World → Prop} {s0 : Nat}

end

theorem elemTx : Elem Tryz.prog Txx.cells 2 16 24 127 := Elem.of Tryz.underlying24 (by kernel_rfl) (by decide) (by decide) Txx.cells_length Txx.cells_one
theorem elemEv : Elem Tryz.prog Evt.cells 4 32 25 187 := Elem.of Tryz.underlying25 (by kernel_rfl) (by decide) (by decide) Evt.cells_length Evt.cells_one

set_option maxRecDepth 4000 in
set_option maxHeartbeats 400000 in
theorem cloneCp_any (v : Value) (l : List Cpn) (hl : l.length ≤ 1073741824) (w : World) (hv : LS Cpn.cells 6 w v l) :
    Calls Tryz.prog 129 #[v] w fun e w' => ∃ v', e = .returned v' ∧ w'.ownsRow w.heap.size 33 6 v' l.length (encL Cpn.cells l) ∧ Below w.heap.size w w' := by
  have HV := Lib.hid hv
  obtain ⟨p, cap, rfl, h1, h2, h3⟩ := hv
  have hq := fun (W : World) => (Lib.run_eql_slice_nil (P := Tryz.prog) W _ _ p l.length cap 0 0 Tryz.underlying23)
  have H3 := Lib.hid h3; clear h3
  cases p with
  | none =>
    have hl0 : l = [] := by
      by_cases hl : l = []
      · exact hl
      · obtain ⟨b, o, h, _⟩ := H3.out hl; cases h
    subst hl0
    simp only [List.length_nil] at *
    go_enter Tryz.func129, Tryz.ntmps129
    go_wp2
    go_ret
    exact ⟨_, rfl, World.ownsRow_nil _ _ _ _, Below.refl _ _⟩
  | some ad =>
    generalize hn : l.length = n at *
    have HN := Lib.hid hn; clear hn
    go_enter Tryz.func129, Tryz.ntmps129
    go_wp2_with (at_builtin; refine wpList_append_recs elemCp rfl _ _ rfl w.heap.size _ 0 [] rfl (recs_of_row (new_rowW _ _ _ rfl) (Nat.le_refl _)) _ l rfl (HV.out.alloc _) (by have := HN.out; omega) (by simp) ?_; intro v1 w1 hown1 hg1 hn1 hat1)
    have HO : Hid (w1.ownsRow w.heap.size 33 6 v1 n (encL Cpn.cells l)) := Lib.hid (by have := hown1; rw [Nat.zero_add, HN.out] at this; exact this)
    have HB : Hid (Below w.heap.size w w1) := Lib.hid (((Below.refl w.heap.size w).alloc (Nat.le_refl _) _).grown hg1 (by simp) (fun b hb => by injection hb with hb; simp at hb; omega))
    clear hown1 hg1 hn1 hat1
    go_wp2
    go_ret
    exact ⟨_, rfl, HO.out, HB.out⟩

set_option maxRecDepth 4000 in
set_option maxHeartbeats 400000 in
theorem cloneTx_any (v : Value) (l : List Txx) (hl : l.length ≤ 1073741824) (w : World) (hv : LS Txx.cells 2 w v l) :
    Calls Tryz.prog 130 #[v] w fun e w' => ∃ v', e = .returned v' ∧ w'.ownsRow w.heap.size 127 2 v' l.length (encL Txx.cells l) ∧ Below w.heap.size w w' := by
  have HV := Lib.hid hv
  obtain ⟨p, cap, rfl, h1, h2, h3⟩ := hv
  have hq := fun (W : World) => (Lib.run_eql_slice_nil (P := Tryz.prog) W _ _ p l.length cap 0 0 Tryz.underlying24)
  have H3 := Lib.hid h3; clear h3
  cases p with
  | none =>
    have hl0 : l = [] := by
      by_cases hl : l = []
      · exact hl
      · obtain ⟨b, o, h, _⟩ := H3.out hl; cases h
    subst hl0
    simp only [List.length_nil] at *
    go_enter Tryz.func130, Tryz.ntmps130
    go_wp2
    go_ret
    exact ⟨_, rfl, World.ownsRow_nil _ _ _ _, Below.refl _ _⟩
  | some ad =>
    generalize hn : l.length = n at *
    have HN := Lib.hid hn; clear hn
    go_enter Tryz.func130, Tryz.ntmps130
    go_wp2_with (at_builtin; refine wpList_append_recs elemTx rfl _ _ rfl w.heap.size _ 0 [] rfl (recs_of_row (new_rowW _ _ _ rfl) (Nat.le_refl _)) _ l rfl (HV.out.alloc _) (by have := HN.out; omega) (by simp) ?_; intro v1 w1 hown1 hg1 hn1 hat1)
    have HO : Hid (w1.ownsRow w.heap.size 127 2 v1 n (encL Txx.cells l)) := Lib.hid (by have := hown1; rw [Nat.zero_add, HN.out] at this; exact this)
    have HB : Hid (Below w.heap.size w w1) := Lib.hid (((Below.refl w.heap.size w).alloc (Nat.le_refl _) _).grown hg1 (by simp) (fun b hb => by injection hb with hb; simp at hb; omega))
    clear hown1 hg1 hn1 hat1
    go_wp2
    go_ret
    exact ⟨_, rfl, HO.out, HB.out⟩

set_option maxRecDepth 4000 in
set_option maxHeartbeats 400000 in
theorem cloneEv_any (v : Value) (l : List Evt) (hl : l.length ≤ 1073741824) (w : World) (hv : LS Evt.cells 4 w v l) :
    Calls Tryz.prog 194 #[v] w fun e w' => ∃ v', e = .returned v' ∧ w'.ownsRow w.heap.size 187 4 v' l.length (encL Evt.cells l) ∧ Below w.heap.size w w' := by
  have HV := Lib.hid hv
  obtain ⟨p, cap, rfl, h1, h2, h3⟩ := hv
  have hq := fun (W : World) => (Lib.run_eql_slice_nil (P := Tryz.prog) W _ _ p l.length cap 0 0 Tryz.underlying25)
  have H3 := Lib.hid h3; clear h3
  cases p with
  | none =>
    have hl0 : l = [] := by
      by_cases hl : l = []
      · exact hl
      · obtain ⟨b, o, h, _⟩ := H3.out hl; cases h
    subst hl0
    simp only [List.length_nil] at *
    go_enter Tryz.func194, Tryz.ntmps194
    go_wp2
    go_ret
    exact ⟨_, rfl, World.ownsRow_nil _ _ _ _, Below.refl _ _⟩
  | some ad =>
    generalize hn : l.length = n at *
    have HN := Lib.hid hn; clear hn
    go_enter Tryz.func194, Tryz.ntmps194
    go_wp2_with (at_builtin; refine wpList_append_recs elemEv rfl _ _ rfl w.heap.size _ 0 [] rfl (recs_of_row (new_rowW _ _ _ rfl) (Nat.le_refl _)) _ l rfl (HV.out.alloc _) (by have := HN.out; omega) (by simp) ?_; intro v1 w1 hown1 hg1 hn1 hat1)
    have HO : Hid (w1.ownsRow w.heap.size 187 4 v1 n (encL Evt.cells l)) := Lib.hid (by have := hown1; rw [Nat.zero_add, HN.out] at this; exact this)
    have HB : Hid (Below w.heap.size w w1) := Lib.hid (((Below.refl w.heap.size w).alloc (Nat.le_refl _) _).grown hg1 (by simp) (fun b hb => by injection hb with hb; simp at hb; omega))
    clear hown1 hg1 hn1 hat1
    go_wp2
    go_ret
    exact ⟨_, rfl, HO.out, HB.out⟩
end Go.Proofs.YtbmphlpmipkpcaaGreat
end
