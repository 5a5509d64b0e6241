/- Contracts: how a ticket's parts are taken (the ways of the ticket package, with a reader). Contracts: numbers and lists of a ticket that are taken. Contract: a ticket's parts are taken, in order (way.ticket, with a reader). Steps of a ticket handed in as a list; a ticket in memory beside a box that is written. Tools: two operations of a drawn region that may come up in either order; a box that is made beside what a call makes. Contract: the ticket of bytes (ticket.Of). The plain law of a ticket's bytes: what is read off a ticket's bytes is that ticket, and bytes that are a ticket's are those of the ticket that is read. -/
import Derived.Test.YtmadkfahkbdibaaTkS
import Derived.Test.YtmadkfahkbdibaaTbA
import Derived.Test.YtmadkfahkbdibaaTrJ
import Derived.Deep.CutBlock
import Derived.Test.YtmadkfahkbdibaaTrD
import Derived.Test.YtmadkfahkbdibaaTkV
set_option linter.unusedVariables false
set_option linter.unusedSimpArgs false
namespace Go.Proofs.Ytmadkfahkbdibaa
open Go.RowKit

/-- types that a reader is made of -/
def RU : List TypeId := [169, 5]
theorem ru_rt {t : TypeId} (h : t ∉ RU) : t ∉ RT := fun k => h (by unfold RT at k; unfold RU; rw [List.mem_singleton.1 k]; simp)
/-- all blocks but one, of other types than a reader's, stay -/
structure KeptB (b : Nat) (w w' : World) : Prop where
  size : w.heap.size ≤ w'.heap.size
  block : ∀ i cs t fr, i ≠ b → w.heap[i]? = some (.cells cs t fr) → t ∉ RT → w'.heap[i]? = some (.cells cs t fr)
theorem KeptB.trans {b : Nat} {a w w' : World} (h : KeptB b a w) (k : KeptB b w w') : KeptB b a w' := ⟨Nat.le_trans h.size k.size, fun i cs t fr hi h1 h2 => k.block i cs t fr hi (h.block i cs t fr hi h1 h2) h2⟩
theorem KeptB.refl (b : Nat) (w : World) : KeptB b w w := ⟨Nat.le_refl _, fun _ _ _ _ _ h _ => h⟩
theorem KeptB.of_kept {b : Nat} {w w' : World} (h : Kept RT w w') : KeptB b w w' := ⟨h.size, fun i cs t fr _ h1 h2 => h.block i cs t fr h1 h2⟩
theorem KeptB.of_below {b : Nat} {w w' : World} (h : Below w.heap.size w w') : KeptB b w w' := KeptB.of_kept (Kept.of_below h)
theorem KeptB.set {b : Nat} {a w : World} (h : KeptB b a w) (o : Nat) (v : Value) : KeptB b a (w.setCell ⟨b, o, none⟩ v) :=
  h.trans ⟨by simp, fun i cs t fr hi h1 _ => by rw [heap_setCell_other w ⟨b, o, none⟩ i v hi]; exact h1⟩
theorem IsR.set {w : World} {base br b : Nat} {st : Option (List UInt8)} {cs : Array Value} {e : TypeId} {fr : Nat × Nat} (h : IsR w base br st) (hb : w.heap[b]? = some (.cells cs e fr)) (he : e ∉ RU) (o : Nat) (v : Value) : IsR (w.setCell ⟨b, o, none⟩ v) base br st := by
  obtain ⟨hbase, g, cap, a, bad, L, h1, h2, h3⟩ := h
  have e1 : e ≠ 169 := fun k => he (by rw [k]; simp [RU])
  have e2 : e ≠ 5 := fun k => he (by rw [k]; simp [RU])
  have hne : br ≠ b := fun k => by
    subst k
    rw [h1] at hb
    injection hb with hb
    injection hb with k1 k2 k3
    exact e1 k2.symm
  exact ⟨hbase, g, cap, a, bad, L, (heap_setCell_other w ⟨b, o, none⟩ br v hne).trans h1, own_set h2 hb (Ne.symm e2) o v, h3⟩
/-- what a part that was taken leaves: the reader, and the place's row -/
structure GS (w w' : World) (base br : Nat) (st' : Option (List UInt8)) (b : Nat) (e : TypeId) (cs' : Array Value) : Prop where
  i : IsR w' base br st'
  r : w'.heap[b]? = some (.cells cs' e (0, 0))
  k : KeptB b w w'
  b : Below base w w'
theorem GS.pre {w w1 w' : World} {base br : Nat} {st' : Option (List UInt8)} {b : Nat} {e : TypeId} {cs' : Array Value} (hb : Below w.heap.size w w1) (hl : base ≤ w.heap.size) (h : GS w1 w' base br st' b e cs') : GS w w' base br st' b e cs' :=
  ⟨h.i, h.r, (KeptB.of_below hb).trans h.k, (hb.mono hl).trans h.b⟩
theorem GS.of_step {w w1 : World} {base br : Nat} {st' : Option (List UInt8)} {b : Nat} {e : TypeId} {cs : Array Value} (h : RStep w w1 base br st') (hr : w.heap[b]? = some (.cells cs e (0, 0))) (he : e ∉ RU) (hb : base ≤ b) (o : Nat) (v : Value) : GS w (w1.setCell ⟨b, o, none⟩ v) base br st' b e (cs.setIfInBounds o v) := by
  have h1 := h.2.2.row hr (ru_rt he)
  exact ⟨h.1.set h1 he o v, heap_setCell_same _ _ _ _ _ _ h1, (KeptB.of_kept h.2.2).set o v, h.2.1.setCell hb v⟩
theorem GS.trans {w w1 w2 : World} {base br : Nat} {s1 s2 : Option (List UInt8)} {b : Nat} {e : TypeId} {c1 c2 : Array Value} (h : GS w w1 base br s1 b e c1) (k : GS w1 w2 base br s2 b e c2) : GS w w2 base br s2 b e c2 :=
  ⟨k.i, k.r, h.k.trans k.k, h.b.trans k.b⟩
theorem GS.of_box {w w1 w2 : World} {base br m : Nat} {st' : Option (List UInt8)} {b : Nat} {e em : TypeId} {cs cm : Array Value} (hB : Below w.heap.size w w1) (hg : GS w1 w2 base br st' m em cm) (hm : w.heap.size ≤ m) (hr : w.heap[b]? = some (.cells cs e (0, 0))) (he : e ∉ RU) (hb : base ≤ b) (hl : base ≤ w.heap.size) (o : Nat) (v : Value) : GS w (w2.setCell ⟨b, o, none⟩ v) base br st' b e (cs.setIfInBounds o v) := by
  have hbl := block_lt hr
  have h1 := hg.k.block b cs e (0, 0) (by omega) ((hB.block b hbl).trans hr) (ru_rt he)
  have hk : KeptB b w w2 := ⟨Nat.le_trans hB.size hg.k.size, fun i c t fr hi h2 h3 => hg.k.block i c t fr (by have := block_lt h2; omega) ((hB.block i (block_lt h2)).trans h2) h3⟩
  exact ⟨hg.i.set h1 he o v, heap_setCell_same _ _ _ _ _ _ h1, hk.set o v, ((hB.mono hl).trans hg.b).setCell hb v⟩

set_option maxRecDepth 4000 in
set_option maxHeartbeats 2000000 in
theorem glong_any (base br : Nat) (st : Option (List UInt8)) (s : Int) (w : World) (h : IsR w base br st) (b o : Nat) (cs : Array Value) (ty : TypeId) (hrow : w.heap[b]? = some (.cells cs ty (0, 0))) (hty : ty ∉ RU) (hb : base ≤ b) (v0 : Value) (hc : cs[o]? = some v0) :
    Calls Try.prog 126 #[.agg #[.pointer none, .pointer (some ⟨br, 0, none⟩)], .pointer (some ⟨b, o, none⟩), .int .i64 s] w fun e w' => e = .returned (.tuple #[]) ∧ GS w w' base br (rNumS st s) b ty (cs.setIfInBounds o (.int .u64 (rNumV st s : Int))) := by
  have hb1 := (Below.refl w.heap.size w).alloc (Nat.le_refl _) (.cells #[.pointer none, .pointer (some ⟨br, 0, none⟩)] 109 (0, 0))
  have HB1 := Lib.hid hb1
  have HI := Lib.hid (h.below hb1)
  have HBR : Hid (base ≤ w.heap.size) := Lib.hid (Nat.le_trans h.lt.1 (Nat.le_of_lt h.lt.2))
  have HR1 : Hid ((w.alloc (.cells #[.pointer none, .pointer (some ⟨br, 0, none⟩)] 109 (0, 0))).heap[w.heap.size]? = some (.cells #[.pointer none, .pointer (some ⟨br, 0, none⟩)] 109 (0, 0))) := Lib.hid (new_rowW _ _ _ rfl)
  have HN1 : Hid ((w.alloc (.cells #[.pointer none, .pointer (some ⟨br, 0, none⟩)] 109 (0, 0))).heap[b]? = some (.cells cs ty (0, 0))) := Lib.hid (row_after hrow)
  have HC := Lib.hid hc; have HTY := Lib.hid hty; have HBB := Lib.hid hb
  have hcw := fun j => cell_of_row _ w.heap.size j _ _ _ HR1.out
  clear hb1 hrow hc h hty hb
  go_enter Try.func126, Try.ntmps126
  go_wp2_with fail
  generalize w.alloc (.cells #[.pointer none, .pointer (some ⟨br, 0, none⟩)] 109 (0, 0)) = w1 at *
  refine (rnumber_any base br st s _ HI.out).mono ?_
  rintro e w2 ⟨rfl, hst⟩
  have HST := Lib.hid hst
  have HN2 := Lib.hid (hst.2.2.row HN1.out (ru_rt HTY.out))
  clear hst hcw
  have kn : ∃ u, w2.cell? ⟨b, o, none⟩ = some u := ⟨_, (cell_of_row _ _ o _ _ _ HN2.out).trans HC.out⟩
  obtain ⟨u, ku⟩ := kn
  have kf := fun j => frozen_of_row w2 b j _ _ HN2.out
  go_wp2
  go_end0
  exact ⟨rfl, GS.pre HB1.out HBR.out (GS.of_step HST.out HN1.out HTY.out HBB.out o _)⟩

set_option maxRecDepth 4000 in
set_option maxHeartbeats 2000000 in
theorem gwhole_any (base br : Nat) (st : Option (List UInt8)) (s : Nat) (hs : s = 1 ∨ s = 2 ∨ s = 4) (w : World) (h : IsR w base br st) (b o : Nat) (cs : Array Value) (ty : TypeId) (hrow : w.heap[b]? = some (.cells cs ty (0, 0))) (hty : ty ∉ RU) (hb : base ≤ b) (v0 : Int) (hc : cs[o]? = some (.int .i64 v0)) :
    Calls Try.prog 128 #[.agg #[.pointer none, .pointer (some ⟨br, 0, none⟩)], .pointer (some ⟨b, o, none⟩), .int .i64 (s : Int)] w fun e w' => e = .returned (.tuple #[]) ∧ GS w w' base br (rNumS st s) b ty (cs.setIfInBounds o (.int .i64 (rNumV st s : Int))) := by
  have hlt := rNumV_lt st s
  have hlt2 : rNumV st s < 4294967296 := by rcases hs with rfl | rfl | rfl <;> omega
  clear hlt
  have hwi : IntKind.i64.wrap (rNumV st s : Int) = (rNumV st s : Int) := by rw [IntKind.wrap_i64]; omega
  have HWI := Lib.hid hwi
  clear hwi hlt2 hs
  have hb1 := (((Below.refl w.heap.size w).alloc (Nat.le_refl _) (.cells #[.pointer none, .pointer (some ⟨br, 0, none⟩)] 109 (0, 0))).alloc (by simp) (.cells #[.int .u64 (IntKind.u64.wrap v0)] 22 (0, 0)))
  have HB1 := Lib.hid hb1
  have HI := Lib.hid (h.below hb1)
  have HBR : Hid (base ≤ w.heap.size) := Lib.hid (Nat.le_trans h.lt.1 (Nat.le_of_lt h.lt.2))
  have HR1 : Hid (((w.alloc (.cells #[.pointer none, .pointer (some ⟨br, 0, none⟩)] 109 (0, 0))).alloc (.cells #[.int .u64 (IntKind.u64.wrap v0)] 22 (0, 0))).heap[w.heap.size]? = some (.cells #[.pointer none, .pointer (some ⟨br, 0, none⟩)] 109 (0, 0))) := Lib.hid (row_after (new_rowW _ _ _ rfl))
  have HM1 : Hid (((w.alloc (.cells #[.pointer none, .pointer (some ⟨br, 0, none⟩)] 109 (0, 0))).alloc (.cells #[.int .u64 (IntKind.u64.wrap v0)] 22 (0, 0))).heap[w.heap.size + 1]? = some (.cells #[.int .u64 (IntKind.u64.wrap v0)] 22 (0, 0))) := Lib.hid (new_rowW _ _ _ (by simp))
  have HRW := Lib.hid hrow
  have HC := Lib.hid hc; have HTY := Lib.hid hty; have HBB := Lib.hid hb
  have c0 : w.cell? ⟨b, o, none⟩ = some (.int .i64 v0) := (cell_of_row _ _ o _ _ _ hrow).trans hc
  have hbl := block_lt hrow
  clear hb1 hrow hc h hty hb
  go_enter Try.func128, Try.ntmps128
  go_upto_region 2 with fail
  generalize ((w.alloc (.cells #[.pointer none, .pointer (some ⟨br, 0, none⟩)] 109 (0, 0))).alloc (.cells #[.int .u64 (IntKind.u64.wrap v0)] 22 (0, 0))) = w1 at *
  clear c0 hbl
  have hcw := fun j => cell_of_row w1 w.heap.size j _ _ _ HR1.out
  go_wp2_with fail
  refine (glong_any base br st (s : Int) _ HI.out (w.heap.size + 1) 0 _ _ HM1.out (by decide) (Nat.le_trans HBR.out (by omega)) _ rfl).mono ?_
  rintro e w2 ⟨rfl, hg⟩
  have HG := Lib.hid hg
  have HM2 := Lib.hid hg.r
  have HN2 := Lib.hid (hg.k.block _ _ _ _ (by have := block_lt HRW.out; omega) ((HB1.out.block _ (block_lt HRW.out)).trans HRW.out) (ru_rt HTY.out))
  clear hg hcw
  have km := fun j => cell_of_row w2 (w.heap.size + 1) j _ _ _ HM2.out
  have kn : w2.cell? ⟨b, o, none⟩ = some (.int .i64 v0) := (cell_of_row _ _ o _ _ _ HN2.out).trans HC.out
  have kf := fun j => frozen_of_row w2 b j _ _ HN2.out
  have hwi := HWI.out
  go_wp2
  go_end0
  exact ⟨rfl, GS.of_box HB1.out HG.out (by simp) HRW.out HTY.out HBB.out HBR.out o _⟩

set_option maxRecDepth 4000 in
set_option maxHeartbeats 2000000 in
theorem gmoney_any (base br : Nat) (st : Option (List UInt8)) (w : World) (h : IsR w base br st) (b o : Nat) (cs : Array Value) (ty : TypeId) (hrow : w.heap[b]? = some (.cells cs ty (0, 0))) (hty : ty ∉ RU) (hb : base ≤ b) (v0 : Int) (hc : cs[o]? = some (.int .i64 v0)) :
    Calls Try.prog 129 #[.agg #[.pointer none, .pointer (some ⟨br, 0, none⟩)], .pointer (some ⟨b, o, none⟩)] w fun e w' => e = .returned (.tuple #[]) ∧ GS w w' base br (rNumS st 8) b ty (cs.setIfInBounds o (.int .i64 (IntKind.i64.wrap (rNumV st 8 : Int)))) := by
  obtain ⟨z, hz⟩ : ∃ z, IntKind.i64.wrap (rNumV st 8 : Int) = z := ⟨_, rfl⟩
  rw [hz]
  have HZ := Lib.hid hz
  clear hz
  have hb1 := (((Below.refl w.heap.size w).alloc (Nat.le_refl _) (.cells #[.pointer none, .pointer (some ⟨br, 0, none⟩)] 109 (0, 0))).alloc (by simp) (.cells #[.int .u64 (IntKind.u64.wrap v0)] 22 (0, 0)))
  have HB1 := Lib.hid hb1
  have HI := Lib.hid (h.below hb1)
  have HBR : Hid (base ≤ w.heap.size) := Lib.hid (Nat.le_trans h.lt.1 (Nat.le_of_lt h.lt.2))
  have HR1 : Hid (((w.alloc (.cells #[.pointer none, .pointer (some ⟨br, 0, none⟩)] 109 (0, 0))).alloc (.cells #[.int .u64 (IntKind.u64.wrap v0)] 22 (0, 0))).heap[w.heap.size]? = some (.cells #[.pointer none, .pointer (some ⟨br, 0, none⟩)] 109 (0, 0))) := Lib.hid (row_after (new_rowW _ _ _ rfl))
  have HM1 : Hid (((w.alloc (.cells #[.pointer none, .pointer (some ⟨br, 0, none⟩)] 109 (0, 0))).alloc (.cells #[.int .u64 (IntKind.u64.wrap v0)] 22 (0, 0))).heap[w.heap.size + 1]? = some (.cells #[.int .u64 (IntKind.u64.wrap v0)] 22 (0, 0))) := Lib.hid (new_rowW _ _ _ (by simp))
  have HRW := Lib.hid hrow
  have HC := Lib.hid hc; have HTY := Lib.hid hty; have HBB := Lib.hid hb
  have c0 : w.cell? ⟨b, o, none⟩ = some (.int .i64 v0) := (cell_of_row _ _ o _ _ _ hrow).trans hc
  have hbl := block_lt hrow
  clear hb1 hrow hc h hty hb
  go_enter Try.func129, Try.ntmps129
  go_upto_region 2 with fail
  generalize ((w.alloc (.cells #[.pointer none, .pointer (some ⟨br, 0, none⟩)] 109 (0, 0))).alloc (.cells #[.int .u64 (IntKind.u64.wrap v0)] 22 (0, 0))) = w1 at *
  clear c0 hbl
  have hcw := fun j => cell_of_row w1 w.heap.size j _ _ _ HR1.out
  go_wp2_with fail
  refine (glong_any base br st 8 _ HI.out (w.heap.size + 1) 0 _ _ HM1.out (by decide) (Nat.le_trans HBR.out (by omega)) _ rfl).mono ?_
  rintro e w2 ⟨rfl, hg⟩
  have HG := Lib.hid hg
  have HM2 := Lib.hid hg.r
  have HN2 := Lib.hid (hg.k.block _ _ _ _ (by have := block_lt HRW.out; omega) ((HB1.out.block _ (block_lt HRW.out)).trans HRW.out) (ru_rt HTY.out))
  clear hg hcw
  have km := fun j => cell_of_row w2 (w.heap.size + 1) j _ _ _ HM2.out
  have kn : w2.cell? ⟨b, o, none⟩ = some (.int .i64 v0) := (cell_of_row _ _ o _ _ _ HN2.out).trans HC.out
  have kf := fun j => frozen_of_row w2 b j _ _ HN2.out
  have hz := HZ.out
  go_wp2
  go_end0
  exact ⟨rfl, GS.of_box HB1.out HG.out (by simp) HRW.out HTY.out HBB.out HBR.out o _⟩

set_option maxRecDepth 4000 in
set_option maxHeartbeats 2000000 in
theorem gstatus_any (base br : Nat) (st : Option (List UInt8)) (w : World) (h : IsR w base br st) (b o : Nat) (cs : Array Value) (ty : TypeId) (hrow : w.heap[b]? = some (.cells cs ty (0, 0))) (hty : ty ∉ RU) (hb : base ≤ b) (v0 : Int) (hc : cs[o]? = some (.int .i64 v0)) :
    Calls Try.prog 131 #[.agg #[.pointer none, .pointer (some ⟨br, 0, none⟩)], .pointer (some ⟨b, o, none⟩)] w fun e w' => e = .returned (.tuple #[]) ∧ GS w w' base br (rNumS st 1) b ty (cs.setIfInBounds o (.int .i64 (rNumV st 1 : Int))) := by
  have hb1 := (((Below.refl w.heap.size w).alloc (Nat.le_refl _) (.cells #[.pointer none, .pointer (some ⟨br, 0, none⟩)] 109 (0, 0))).alloc (by simp) (.cells #[.int .i64 v0] 3 (0, 0)))
  have HB1 := Lib.hid hb1
  have HI := Lib.hid (h.below hb1)
  have HBR : Hid (base ≤ w.heap.size) := Lib.hid (Nat.le_trans h.lt.1 (Nat.le_of_lt h.lt.2))
  have HR1 : Hid (((w.alloc (.cells #[.pointer none, .pointer (some ⟨br, 0, none⟩)] 109 (0, 0))).alloc (.cells #[.int .i64 v0] 3 (0, 0))).heap[w.heap.size]? = some (.cells #[.pointer none, .pointer (some ⟨br, 0, none⟩)] 109 (0, 0))) := Lib.hid (row_after (new_rowW _ _ _ rfl))
  have HM1 : Hid (((w.alloc (.cells #[.pointer none, .pointer (some ⟨br, 0, none⟩)] 109 (0, 0))).alloc (.cells #[.int .i64 v0] 3 (0, 0))).heap[w.heap.size + 1]? = some (.cells #[.int .i64 v0] 3 (0, 0))) := Lib.hid (new_rowW _ _ _ (by simp))
  have HRW := Lib.hid hrow
  have HC := Lib.hid hc; have HTY := Lib.hid hty; have HBB := Lib.hid hb
  have c0 : w.cell? ⟨b, o, none⟩ = some (.int .i64 v0) := (cell_of_row _ _ o _ _ _ hrow).trans hc
  have hbl := block_lt hrow
  clear hb1 hrow hc h hty hb
  go_enter Try.func131, Try.ntmps131
  go_upto_region 2 with fail
  generalize ((w.alloc (.cells #[.pointer none, .pointer (some ⟨br, 0, none⟩)] 109 (0, 0))).alloc (.cells #[.int .i64 v0] 3 (0, 0))) = w1 at *
  clear c0 hbl
  have hcw := fun j => cell_of_row w1 w.heap.size j _ _ _ HR1.out
  go_wp2_with fail
  refine (gwhole_any base br st 1 (.inl rfl) _ HI.out (w.heap.size + 1) 0 _ _ HM1.out (by decide) (Nat.le_trans HBR.out (by omega)) _ rfl).mono ?_
  rintro e w2 ⟨rfl, hg⟩
  have HG := Lib.hid hg
  have HM2 := Lib.hid hg.r
  have HN2 := Lib.hid (hg.k.block _ _ _ _ (by have := block_lt HRW.out; omega) ((HB1.out.block _ (block_lt HRW.out)).trans HRW.out) (ru_rt HTY.out))
  clear hg hcw
  have km := fun j => cell_of_row w2 (w.heap.size + 1) j _ _ _ HM2.out
  have kn : w2.cell? ⟨b, o, none⟩ = some (.int .i64 v0) := (cell_of_row _ _ o _ _ _ HN2.out).trans HC.out
  have kf := fun j => frozen_of_row w2 b j _ _ HN2.out
  go_wp2
  go_end0
  exact ⟨rfl, GS.of_box HB1.out HG.out (by simp) HRW.out HTY.out HBB.out HBR.out o _⟩

set_option maxRecDepth 4000 in
set_option maxHeartbeats 2000000 in
theorem gtext_any (base br : Nat) (st : Option (List UInt8)) (w : World) (h : IsR w base br st) (b o : Nat) (cs : Array Value) (ty : TypeId) (hrow : w.heap[b]? = some (.cells cs ty (0, 0))) (hty : ty ∉ RU) (hb : base ≤ b) (v0 : Value) (hc : cs[o]? = some v0) :
    Calls Try.prog 127 #[.agg #[.pointer none, .pointer (some ⟨br, 0, none⟩)], .pointer (some ⟨b, o, none⟩)] w fun e w' => e = .returned (.tuple #[]) ∧ GS w w' base br (rRest st 6) b ty (cs.setIfInBounds o (.string ⟨(rBy st 6).toArray⟩)) := by
  have hb1 := (Below.refl w.heap.size w).alloc (Nat.le_refl _) (.cells #[.pointer none, .pointer (some ⟨br, 0, none⟩)] 109 (0, 0))
  have HB1 := Lib.hid hb1
  have HI := Lib.hid (h.below hb1)
  have HBR : Hid (base ≤ w.heap.size) := Lib.hid (Nat.le_trans h.lt.1 (Nat.le_of_lt h.lt.2))
  have HR1 : Hid ((w.alloc (.cells #[.pointer none, .pointer (some ⟨br, 0, none⟩)] 109 (0, 0))).heap[w.heap.size]? = some (.cells #[.pointer none, .pointer (some ⟨br, 0, none⟩)] 109 (0, 0))) := Lib.hid (new_rowW _ _ _ rfl)
  have HN1 : Hid ((w.alloc (.cells #[.pointer none, .pointer (some ⟨br, 0, none⟩)] 109 (0, 0))).heap[b]? = some (.cells cs ty (0, 0))) := Lib.hid (row_after hrow)
  have HC := Lib.hid hc; have HTY := Lib.hid hty; have HBB := Lib.hid hb
  have hcw := fun j => cell_of_row _ w.heap.size j _ _ _ HR1.out
  clear hb1 hrow hc h hty hb
  go_enter Try.func127, Try.ntmps127
  go_wp2_with fail
  generalize w.alloc (.cells #[.pointer none, .pointer (some ⟨br, 0, none⟩)] 109 (0, 0)) = w1 at *
  refine (rbytes_any base br st 6 (by decide) _ HI.out).mono ?_
  rintro e w2 ⟨v, rfl, hown, hst⟩
  have f1 := (BS.of_own hown).to_string
  obtain ⟨q, c, rfl⟩ := own_form hown
  have HST := Lib.hid hst
  have HN2 := Lib.hid (hst.2.2.row HN1.out (ru_rt HTY.out))
  clear hst hcw hown
  have kn : ∃ u, w2.cell? ⟨b, o, none⟩ = some u := ⟨_, (cell_of_row _ _ o _ _ _ HN2.out).trans HC.out⟩
  obtain ⟨u, ku⟩ := kn
  have kf := fun j => frozen_of_row w2 b j _ _ HN2.out
  go_wp2
  go_end0
  exact ⟨rfl, GS.pre HB1.out HBR.out (GS.of_step HST.out HN1.out HTY.out HBB.out o _)⟩
end Go.Proofs.Ytmadkfahkbdibaa

set_option linter.unusedVariables false
set_option linter.unusedSimpArgs false
namespace Go.Proofs.Ytmadkfahkbdibaa
open Go.RowKit

/-- numbers of eight bytes, each to its place -/
def ovF (x : Array Value × Option (List UInt8)) (o : Nat) : Array Value × Option (List UInt8) := (x.1.setIfInBounds o (.int .u64 (rNumV x.2 8 : Int)), rNumS x.2 8)
def ovR (cs : Array Value) (st : Option (List UInt8)) (os : List Nat) : Array Value × Option (List UInt8) := os.foldl ovF (cs, st)
theorem ovR_snoc (cs : Array Value) (st : Option (List UInt8)) (os : List Nat) (o : Nat) : ovR cs st (os ++ [o]) = ovF (ovR cs st os) o := by unfold ovR; rw [List.foldl_append]; rfl
theorem ovR_size (cs : Array Value) : ∀ (os : List Nat) (st : Option (List UInt8)), (ovR cs st os).1.size = cs.size := by
  intro os
  refine Wire.snocRec (M := fun os => ∀ st, (ovR cs st os).1.size = cs.size) (fun st => rfl) (fun l x ih st => ?_) os
  rw [ovR_snoc]
  show ((ovR cs st l).1.setIfInBounds x _).size = _
  rw [Array.size_setIfInBounds, ih]
def ptrsO (b : Nat) (os : List Nat) : Array Value := (os.map fun o => Value.pointer (some ⟨b, o, none⟩)).toArray
theorem GS.row {w w' : World} {base br b g : Nat} {st' : Option (List UInt8)} {e t : TypeId} {cs' cs : Array Value} {fr : Nat × Nat} (h : GS w w' base br st' b e cs') (hg : w.heap[g]? = some (.cells cs t fr)) (hne : g ≠ b) (ht : t ∉ RT) : w'.heap[g]? = some (.cells cs t fr) := h.k.block g cs t fr hne hg ht
theorem GS.refl {w : World} {base br b : Nat} {st : Option (List UInt8)} {e : TypeId} {cs : Array Value} (h : IsR w base br st) (hr : w.heap[b]? = some (.cells cs e (0, 0))) : GS w w base br st b e cs := ⟨h, hr, .refl _ _, .refl _ _⟩

theorem Tkt.take_snocG {α : Type} {l : List α} {k : Nat} {y : α} (h : l[k]? = some y) : l.take (k + 1) = l.take k ++ [y] := by
  obtain ⟨hk, he⟩ := List.getElem?_eq_some_iff.1 h
  rw [List.take_succ_eq_append_getElem hk, he]

set_option maxRecDepth 4000 in
set_option maxHeartbeats 2000000 in
theorem gover_any (base br : Nat) (st : Option (List UInt8)) (os : List Nat) (w : World) (h : IsR w base br st) (b : Nat) (cs : Array Value) (ty : TypeId) (hrow : w.heap[b]? = some (.cells cs ty (0, 0))) (hty : ty ∉ RU) (hnp : ty ≠ 154) (hb : base ≤ b) (hos : ∀ o ∈ os, o < cs.size) (hlen : os.length ≤ 3) (gl c : Nat) (hc : os.length ≤ c) (hl : w.heap[gl]? = some (.cells (ptrsO b os) 154 (0, 0))) :
    Calls Try.prog 125 #[.func (.func 126) #[.agg #[.pointer none, .pointer (some ⟨br, 0, none⟩)]] #[], .int .i64 8, .slice (some ⟨gl, 0, none⟩) os.length c] w fun e w' => e = .returned (.tuple #[]) ∧ GS w w' base br (ovR cs st os).2 b ty (ovR cs st os).1 := by
  obtain ⟨n, hn⟩ : ∃ n, os.length = n := ⟨_, rfl⟩
  rw [hn] at hlen hc ⊢
  have HN := Lib.hid hn; have HROW := Lib.hid hl; have HOS := Lib.hid hos; have HG0 := Lib.hid (GS.refl h hrow); have HTY := Lib.hid hty; have HBB := Lib.hid hb
  have HGL : Hid (gl ≠ b) := Lib.hid (row_neT hl hrow (fun k => hnp k.symm))
  clear hn hl hos h hrow hty hb hnp
  go_enter Try.func125, Try.ntmps125
  go_wp2_with fail
  go_loopw [10] (fun i wr => ∃ j : Nat, j ≤ n ∧ i = .int .i64 j ∧ GS w wr base br (ovR cs st (os.take j)).2 b ty (ovR cs st (os.take j)).1) (fun i _ => n - (intOf i).toNat)
  case atStart => exact ⟨0, Nat.zero_le _, rfl, HG0.out⟩
  case round =>
    obtain ⟨j, hj, rfl, hg⟩ := hrel
    have HG := Lib.hid hg
    have HRW := Lib.hid (hg.row HROW.out HGL.out (by decide))
    clear hg
    by_cases hlt : j < n
    · obtain ⟨p, hp⟩ : ∃ p, os[j]? = some p := ⟨_, List.getElem?_eq_getElem (by have := HN.out; omega)⟩
      have HP := Lib.hid hp
      have c0 : wr.cell? ⟨gl, j, none⟩ = some (.pointer (some ⟨b, p, none⟩)) := (cell_of_row _ _ j _ _ _ HRW.out).trans (by unfold ptrsO; rw [List.getElem?_toArray, List.getElem?_map, hp]; rfl)
      have HPS : Hid (p < (ovR cs st (os.take j)).1.size) := Lib.hid (by rw [ovR_size]; exact HOS.out p (List.mem_of_getElem? hp))
      clear hp
      obtain ⟨x, hx⟩ : ∃ x, ovR cs st (os.take j) = x := ⟨_, rfl⟩
      have HX := Lib.hid hx
      rw [hx] at HG HPS
      clear hx
      go_wp2_with fail
      refine (glong_any base br x.2 8 _ HG.out.i b p _ _ HG.out.r HTY.out HBB.out _ (Array.getElem?_eq_getElem HPS.out)).mono ?_
      rintro e w2 ⟨rfl, hs2⟩
      have HS2 := Lib.hid (HG.out.trans hs2)
      clear hs2 c0
      go_wp2
      go_roundw
      case rel =>
        refine ⟨j + 1, by omega, by go_num, ?_⟩
        rw [Tkt.take_snocG HP.out, ovR_snoc, HX.out]
        exact HS2.out
      case measure => simp [intOf]; omega
    · obtain rfl : n = j := by omega
      go_wp2
      go_end0
      have := HG.out
      rw [List.take_of_length_le (by have := HN.out; omega)] at this
      exact ⟨rfl, this⟩

theorem made_enc {α : Type} {enc : α → List Value} {n : Nat} (hn : ∀ x, (enc x).length = n) (hp : 0 < n) (z : α) (m : Nat) : (madeCells (enc z).toArray (m * n)).toList = encL enc (List.replicate m z) := by
  apply List.ext_getElem?
  intro i
  by_cases hi : i < m * n
  · have hd : i / n < m := (Nat.div_lt_iff_lt_mul hp).2 hi
    have e1 : i = i / n * n + i % n := by have := Nat.div_add_mod i n; rw [Nat.mul_comm] at this; omega
    have e2 : (List.replicate m z)[i / n]? = some z := by rw [List.getElem?_replicate, if_pos hd]
    have hm : i % n < n := Nat.mod_lt _ hp
    have e3 := encL_at hn e2 hm
    rw [← e1] at e3
    rw [e3]
    unfold madeCells
    rw [Array.toList_map, List.getElem?_map]
    have e4 : (Array.range (m * n)).toList[i]? = some i := by simp [hi]
    rw [e4]
    have hz : (enc z).toArray.size = n := by simp [hn]
    simp only [Option.map_some, hz]
    rw [getElem!_pos _ _ (by rw [hz]; exact hm)]
    simp [hn, hm]
  · rw [List.getElem?_eq_none (by rw [Array.length_toList, size_madeCells]; omega), List.getElem?_eq_none (by rw [encL_length hn, List.length_replicate]; omega)]

def zCp (m : Nat) : Array Value := (encL Cpn.cells (List.replicate m ⟨0, 0, 0, 0, 0, 0⟩)).toArray
theorem mk_Cp (m : Nat) (hm : m ≤ 100000) (W : World) : (Instr.makeSlice 23 (.int .i64 (m : Int)) (.int .i64 (m : Int))).run Try.prog W = .ok (.slice (some ⟨W.heap.size, 0, none⟩) m m) (W.alloc (.cells (zCp m) 44 (0, 0))) := by
  have h1 : ((Try.prog.info? 44).map fun i => (i.size, i.bytes)) = some (6, 48) := by kernel_rfl
  have h2 : ((Try.prog.info? 44).bind fun i => i.zero) = some (.agg #[.int .i64 0, .int .i64 0, .int .i64 0, .int .i64 0, .int .i64 0, .int .u64 0]) := by kernel_rfl
  cases hi : Try.prog.info? 44 with
  | none => rw [hi] at h1; cases h1
  | some i =>
    rw [hi] at h1 h2
    have hz : i.zero = some (.agg #[.int .i64 0, .int .i64 0, .int .i64 0, .int .i64 0, .int .i64 0, .int .u64 0]) := h2
    have h1' : i.size = 6 ∧ i.bytes = 48 := by simpa using h1
    have := run_makeSlice (w := W) (P := Try.prog) 23 44 i (.agg #[.int .i64 0, .int .i64 0, .int .i64 0, .int .i64 0, .int .i64 0, .int .u64 0]) Try.underlying23 hi hz .i64 .i64 (m : Int) (m : Int) (by omega) (Int.le_refl _) (by rw [h1'.1]; simp; omega) (by rw [h1'.2]; omega) (by omega)
    rw [h1'.1] at this
    have hc : madeCells (Value.agg #[.int .i64 0, .int .i64 0, .int .i64 0, .int .i64 0, .int .i64 0, .int .u64 0]).cells (m * 6) = zCp m := by
      apply Array.toList_inj.1
      exact made_enc Cpn.cells_length (by decide) ⟨0, 0, 0, 0, 0, 0⟩ m
    simpa [hc] using this

/-- a list of zero records, as many as were read -/
def LR (w : World) (base br : Nat) (st : Option (List UInt8)) (N : Nat) (zs : Array Value) (e : TypeId) (en : Ending) (w' : World) : Prop :=
  ∃ g, en = .returned (.slice (some ⟨g, 0, none⟩) N N) ∧ w.heap.size ≤ g ∧ w'.heap[g]? = some (.cells zs e (0, 0)) ∧ IsR w' base br (rNumS st 1) ∧ Below base w w' ∧ Kept RT w w'
theorem LR.mk_ {w w1 w2 : World} {base br m N : Nat} {st : Option (List UInt8)} {zs cm : Array Value} {e em : TypeId} {en : Ending} (hB : Below w.heap.size w w1) (hl : base ≤ w.heap.size) (hg : GS w1 w2 base br (rNumS st 1) m em cm) (hm : w.heap.size ≤ m) (hen : en = .returned (.slice (some ⟨w2.heap.size, 0, none⟩) N N)) : LR w base br st N zs e en (w2.alloc (.cells zs e (0, 0))) := by
  refine ⟨w2.heap.size, hen, Nat.le_trans hB.size hg.k.size, new_rowW _ _ _ rfl, hg.i.below ((Below.refl _ _).alloc (Nat.le_refl _) _), ((hB.mono hl).trans hg.b).alloc (Nat.le_trans hl (Nat.le_trans hB.size hg.k.size)) _, ?_⟩
  exact ⟨Nat.le_trans hB.size (Nat.le_trans hg.k.size (by simp)), fun i cs t fr h1 h2 => row_after (hg.k.block i cs t fr (by have := block_lt h1; omega) ((hB.block i (block_lt h1)).trans h1) h2)⟩

set_option maxRecDepth 4000 in
set_option maxHeartbeats 2000000 in
theorem glistCp_any (base br : Nat) (st : Option (List UInt8)) (w : World) (h : IsR w base br st) :
    Calls Try.prog 130 #[.agg #[.pointer none, .pointer (some ⟨br, 0, none⟩)], .slice none 0 0] w fun e w' => LR w base br st (rNumV st 1) (zCp (rNumV st 1)) 44 e w' := by
  have hb1 := (((Below.refl w.heap.size w).alloc (Nat.le_refl _) (.cells #[.pointer none, .pointer (some ⟨br, 0, none⟩)] 109 (0, 0))).alloc (by simp) (.cells #[.int .i64 0] 3 (0, 0)))
  have HB1 := Lib.hid hb1
  have HI := Lib.hid (h.below hb1)
  have HBR : Hid (base ≤ w.heap.size) := Lib.hid (Nat.le_trans h.lt.1 (Nat.le_of_lt h.lt.2))
  have HR1 : Hid (((w.alloc (.cells #[.pointer none, .pointer (some ⟨br, 0, none⟩)] 109 (0, 0))).alloc (.cells #[.int .i64 0] 3 (0, 0))).heap[w.heap.size]? = some (.cells #[.pointer none, .pointer (some ⟨br, 0, none⟩)] 109 (0, 0))) := Lib.hid (row_after (new_rowW _ _ _ rfl))
  have HM1 : Hid (((w.alloc (.cells #[.pointer none, .pointer (some ⟨br, 0, none⟩)] 109 (0, 0))).alloc (.cells #[.int .i64 0] 3 (0, 0))).heap[w.heap.size + 1]? = some (.cells #[.int .i64 0] 3 (0, 0))) := Lib.hid (new_rowW _ _ _ (by simp))
  have hlt := rNumV_lt st 1
  have hlt2 : rNumV st 1 < 256 := by omega
  have HMK := Lib.hid (mk_Cp (rNumV st 1) (by omega))
  obtain ⟨N, hN⟩ : ∃ N, rNumV st 1 = N := ⟨_, rfl⟩
  rw [hN] at HMK hlt2 ⊢
  have HNN := Lib.hid hN
  clear hb1 h hlt hN
  go_enter Try.func130, Try.ntmps130
  go_upto_region 2 with fail
  generalize ((w.alloc (.cells #[.pointer none, .pointer (some ⟨br, 0, none⟩)] 109 (0, 0))).alloc (.cells #[.int .i64 0] 3 (0, 0))) = w1 at *
  have hcw := fun j => cell_of_row w1 w.heap.size j _ _ _ HR1.out
  go_wp2_with fail
  refine (gwhole_any base br st 1 (.inl rfl) _ HI.out (w.heap.size + 1) 0 _ _ HM1.out (by decide) (Nat.le_trans HBR.out (by omega)) 0 rfl).mono ?_
  rintro e w2 ⟨rfl, hg⟩
  have HG := Lib.hid hg
  have HR2 := Lib.hid (hg.row HR1.out (by omega) (by decide))
  have HM2 : Hid (w2.heap[w.heap.size + 1]? = some (.cells #[.int .i64 (N : Int)] 3 (0, 0))) := Lib.hid (by have := hg.r; rw [show rNumV st ((1 : Nat) : Int) = N from HNN.out] at this; exact this)
  clear hg hcw
  have km := fun j => cell_of_row w2 (w.heap.size + 1) j _ _ _ HM2.out
  have kw := fun j => cell_of_row w2 w.heap.size j _ _ _ HR2.out
  have hmk := HMK.out w2
  go_wp2
  go_ret
  exact LR.mk_ HB1.out HBR.out HG.out (by simp) rfl

def zTx (m : Nat) : Array Value := (encL Txx.cells (List.replicate m ⟨0, 0⟩)).toArray
theorem mk_Tx (m : Nat) (hm : m ≤ 100000) (W : World) : (Instr.makeSlice 24 (.int .i64 (m : Int)) (.int .i64 (m : Int))).run Try.prog W = .ok (.slice (some ⟨W.heap.size, 0, none⟩) m m) (W.alloc (.cells (zTx m) 48 (0, 0))) := by
  have h1 : ((Try.prog.info? 48).map fun i => (i.size, i.bytes)) = some (2, 16) := by kernel_rfl
  have h2 : ((Try.prog.info? 48).bind fun i => i.zero) = some (.agg #[.int .i64 0, .int .i64 0]) := by kernel_rfl
  cases hi : Try.prog.info? 48 with
  | none => rw [hi] at h1; cases h1
  | some i =>
    rw [hi] at h1 h2
    have hz : i.zero = some (.agg #[.int .i64 0, .int .i64 0]) := h2
    have h1' : i.size = 2 ∧ i.bytes = 16 := by simpa using h1
    have := run_makeSlice (w := W) (P := Try.prog) 24 48 i (.agg #[.int .i64 0, .int .i64 0]) Try.underlying24 hi hz .i64 .i64 (m : Int) (m : Int) (by omega) (Int.le_refl _) (by rw [h1'.1]; simp; omega) (by rw [h1'.2]; omega) (by omega)
    rw [h1'.1] at this
    have hc : madeCells (Value.agg #[.int .i64 0, .int .i64 0]).cells (m * 2) = zTx m := by
      apply Array.toList_inj.1
      exact made_enc Txx.cells_length (by decide) ⟨0, 0⟩ m
    simpa [hc] using this

set_option maxRecDepth 4000 in
set_option maxHeartbeats 2000000 in
theorem glistTx_any (base br : Nat) (st : Option (List UInt8)) (w : World) (h : IsR w base br st) :
    Calls Try.prog 132 #[.agg #[.pointer none, .pointer (some ⟨br, 0, none⟩)], .slice none 0 0] w fun e w' => LR w base br st (rNumV st 1) (zTx (rNumV st 1)) 48 e w' := by
  have hb1 := (((Below.refl w.heap.size w).alloc (Nat.le_refl _) (.cells #[.pointer none, .pointer (some ⟨br, 0, none⟩)] 109 (0, 0))).alloc (by simp) (.cells #[.int .i64 0] 3 (0, 0)))
  have HB1 := Lib.hid hb1
  have HI := Lib.hid (h.below hb1)
  have HBR : Hid (base ≤ w.heap.size) := Lib.hid (Nat.le_trans h.lt.1 (Nat.le_of_lt h.lt.2))
  have HR1 : Hid (((w.alloc (.cells #[.pointer none, .pointer (some ⟨br, 0, none⟩)] 109 (0, 0))).alloc (.cells #[.int .i64 0] 3 (0, 0))).heap[w.heap.size]? = some (.cells #[.pointer none, .pointer (some ⟨br, 0, none⟩)] 109 (0, 0))) := Lib.hid (row_after (new_rowW _ _ _ rfl))
  have HM1 : Hid (((w.alloc (.cells #[.pointer none, .pointer (some ⟨br, 0, none⟩)] 109 (0, 0))).alloc (.cells #[.int .i64 0] 3 (0, 0))).heap[w.heap.size + 1]? = some (.cells #[.int .i64 0] 3 (0, 0))) := Lib.hid (new_rowW _ _ _ (by simp))
  have hlt := rNumV_lt st 1
  have hlt2 : rNumV st 1 < 256 := by omega
  have HMK := Lib.hid (mk_Tx (rNumV st 1) (by omega))
  obtain ⟨N, hN⟩ : ∃ N, rNumV st 1 = N := ⟨_, rfl⟩
  rw [hN] at HMK hlt2 ⊢
  have HNN := Lib.hid hN
  clear hb1 h hlt hN
  go_enter Try.func132, Try.ntmps132
  go_upto_region 2 with fail
  generalize ((w.alloc (.cells #[.pointer none, .pointer (some ⟨br, 0, none⟩)] 109 (0, 0))).alloc (.cells #[.int .i64 0] 3 (0, 0))) = w1 at *
  have hcw := fun j => cell_of_row w1 w.heap.size j _ _ _ HR1.out
  go_wp2_with fail
  refine (gwhole_any base br st 1 (.inl rfl) _ HI.out (w.heap.size + 1) 0 _ _ HM1.out (by decide) (Nat.le_trans HBR.out (by omega)) 0 rfl).mono ?_
  rintro e w2 ⟨rfl, hg⟩
  have HG := Lib.hid hg
  have HR2 := Lib.hid (hg.row HR1.out (by omega) (by decide))
  have HM2 : Hid (w2.heap[w.heap.size + 1]? = some (.cells #[.int .i64 (N : Int)] 3 (0, 0))) := Lib.hid (by have := hg.r; rw [show rNumV st ((1 : Nat) : Int) = N from HNN.out] at this; exact this)
  clear hg hcw
  have km := fun j => cell_of_row w2 (w.heap.size + 1) j _ _ _ HM2.out
  have kw := fun j => cell_of_row w2 w.heap.size j _ _ _ HR2.out
  have hmk := HMK.out w2
  go_wp2
  go_ret
  exact LR.mk_ HB1.out HBR.out HG.out (by simp) rfl

def zEv (m : Nat) : Array Value := (encL Evt.cells (List.replicate m ⟨0, 0, 0, 0⟩)).toArray
theorem mk_Ev (m : Nat) (hm : m ≤ 100000) (W : World) : (Instr.makeSlice 25 (.int .i64 (m : Int)) (.int .i64 (m : Int))).run Try.prog W = .ok (.slice (some ⟨W.heap.size, 0, none⟩) m m) (W.alloc (.cells (zEv m) 46 (0, 0))) := by
  have h1 : ((Try.prog.info? 46).map fun i => (i.size, i.bytes)) = some (4, 32) := by kernel_rfl
  have h2 : ((Try.prog.info? 46).bind fun i => i.zero) = some (.agg #[.int .i64 0, .int .i64 0, .int .i64 0, .int .i64 0]) := by kernel_rfl
  cases hi : Try.prog.info? 46 with
  | none => rw [hi] at h1; cases h1
  | some i =>
    rw [hi] at h1 h2
    have hz : i.zero = some (.agg #[.int .i64 0, .int .i64 0, .int .i64 0, .int .i64 0]) := h2
    have h1' : i.size = 4 ∧ i.bytes = 32 := by simpa using h1
    have := run_makeSlice (w := W) (P := Try.prog) 25 46 i (.agg #[.int .i64 0, .int .i64 0, .int .i64 0, .int .i64 0]) Try.underlying25 hi hz .i64 .i64 (m : Int) (m : Int) (by omega) (Int.le_refl _) (by rw [h1'.1]; simp; omega) (by rw [h1'.2]; omega) (by omega)
    rw [h1'.1] at this
    have hc : madeCells (Value.agg #[.int .i64 0, .int .i64 0, .int .i64 0, .int .i64 0]).cells (m * 4) = zEv m := by
      apply Array.toList_inj.1
      exact made_enc Evt.cells_length (by decide) ⟨0, 0, 0, 0⟩ m
    simpa [hc] using this

set_option maxRecDepth 4000 in
set_option maxHeartbeats 2000000 in
theorem glistEv_any (base br : Nat) (st : Option (List UInt8)) (w : World) (h : IsR w base br st) :
    Calls Try.prog 133 #[.agg #[.pointer none, .pointer (some ⟨br, 0, none⟩)], .slice none 0 0] w fun e w' => LR w base br st (rNumV st 1) (zEv (rNumV st 1)) 46 e w' := by
  have hb1 := (((Below.refl w.heap.size w).alloc (Nat.le_refl _) (.cells #[.pointer none, .pointer (some ⟨br, 0, none⟩)] 109 (0, 0))).alloc (by simp) (.cells #[.int .i64 0] 3 (0, 0)))
  have HB1 := Lib.hid hb1
  have HI := Lib.hid (h.below hb1)
  have HBR : Hid (base ≤ w.heap.size) := Lib.hid (Nat.le_trans h.lt.1 (Nat.le_of_lt h.lt.2))
  have HR1 : Hid (((w.alloc (.cells #[.pointer none, .pointer (some ⟨br, 0, none⟩)] 109 (0, 0))).alloc (.cells #[.int .i64 0] 3 (0, 0))).heap[w.heap.size]? = some (.cells #[.pointer none, .pointer (some ⟨br, 0, none⟩)] 109 (0, 0))) := Lib.hid (row_after (new_rowW _ _ _ rfl))
  have HM1 : Hid (((w.alloc (.cells #[.pointer none, .pointer (some ⟨br, 0, none⟩)] 109 (0, 0))).alloc (.cells #[.int .i64 0] 3 (0, 0))).heap[w.heap.size + 1]? = some (.cells #[.int .i64 0] 3 (0, 0))) := Lib.hid (new_rowW _ _ _ (by simp))
  have hlt := rNumV_lt st 1
  have hlt2 : rNumV st 1 < 256 := by omega
  have HMK := Lib.hid (mk_Ev (rNumV st 1) (by omega))
  obtain ⟨N, hN⟩ : ∃ N, rNumV st 1 = N := ⟨_, rfl⟩
  rw [hN] at HMK hlt2 ⊢
  have HNN := Lib.hid hN
  clear hb1 h hlt hN
  go_enter Try.func133, Try.ntmps133
  go_upto_region 2 with fail
  generalize ((w.alloc (.cells #[.pointer none, .pointer (some ⟨br, 0, none⟩)] 109 (0, 0))).alloc (.cells #[.int .i64 0] 3 (0, 0))) = w1 at *
  have hcw := fun j => cell_of_row w1 w.heap.size j _ _ _ HR1.out
  go_wp2_with fail
  refine (gwhole_any base br st 1 (.inl rfl) _ HI.out (w.heap.size + 1) 0 _ _ HM1.out (by decide) (Nat.le_trans HBR.out (by omega)) 0 rfl).mono ?_
  rintro e w2 ⟨rfl, hg⟩
  have HG := Lib.hid hg
  have HR2 := Lib.hid (hg.row HR1.out (by omega) (by decide))
  have HM2 : Hid (w2.heap[w.heap.size + 1]? = some (.cells #[.int .i64 (N : Int)] 3 (0, 0))) := Lib.hid (by have := hg.r; rw [show rNumV st ((1 : Nat) : Int) = N from HNN.out] at this; exact this)
  clear hg hcw
  have km := fun j => cell_of_row w2 (w.heap.size + 1) j _ _ _ HM2.out
  have kw := fun j => cell_of_row w2 w.heap.size j _ _ _ HR2.out
  have hmk := HMK.out w2
  go_wp2
  go_ret
  exact LR.mk_ HB1.out HBR.out HG.out (by simp) rfl
end Go.Proofs.Ytmadkfahkbdibaa

set_option linter.unusedVariables false
set_option linter.unusedSimpArgs false
namespace Go.Proofs.Ytmadkfahkbdibaa
open Go.RowKit

namespace Tkt
/-- so many steps of a reader's state -/
def itS (f : Option (List UInt8) → Option (List UInt8)) : Nat → Option (List UInt8) → Option (List UInt8)
  | 0, s => s
  | k + 1, s => f (itS f k s)
def itL {α : Type} (g : Option (List UInt8) → α) (f : Option (List UInt8) → Option (List UInt8)) : Nat → Option (List UInt8) → List α
  | 0, _ => []
  | k + 1, s => itL g f k s ++ [g (itS f k s)]
theorem itL_length {α : Type} (g : Option (List UInt8) → α) (f : Option (List UInt8) → Option (List UInt8)) (k : Nat) (s : Option (List UInt8)) : (itL g f k s).length = k := by
  induction k with
  | zero => rfl
  | succ k ih => rw [itL, List.length_append, ih]; rfl
def cc1 (s : Option (List UInt8)) := rNumS s 2
def cc2 (s : Option (List UInt8)) := rNumS (cc1 s) 4
def cc3 (s : Option (List UInt8)) := rNumS (cc2 s) 8
def cc4 (s : Option (List UInt8)) := rNumS (cc3 s) 1
def cc5 (s : Option (List UInt8)) := rNumS (cc4 s) 2
def cc6 (s : Option (List UInt8)) := rNumS (cc5 s) 8
def gC (s : Option (List UInt8)) : Cpn := ⟨(rNumV s 2 : Int), (rNumV (cc1 s) 4 : Int), IntKind.i64.wrap (rNumV (cc2 s) 8 : Int), (rNumV (cc3 s) 1 : Int), (rNumV (cc4 s) 2 : Int), (rNumV (cc5 s) 8 : Int)⟩
def gCs (s : Option (List UInt8)) := cc6 s
def xx1 (s : Option (List UInt8)) := rNumS s 1
def xx2 (s : Option (List UInt8)) := rNumS (xx1 s) 8
def gX (s : Option (List UInt8)) : Txx := ⟨(rNumV s 1 : Int), IntKind.i64.wrap (rNumV (xx1 s) 8 : Int)⟩
def gXs (s : Option (List UInt8)) := xx2 s
def ee1 (s : Option (List UInt8)) := rNumS s 4
def ee2 (s : Option (List UInt8)) := rNumS (ee1 s) 1
def ee3 (s : Option (List UInt8)) := rNumS (ee2 s) 1
def ee4 (s : Option (List UInt8)) := rNumS (ee3 s) 1
def gE (s : Option (List UInt8)) : Evt := ⟨(rNumV s 4 : Int), (rNumV (ee1 s) 1 : Int), (rNumV (ee2 s) 1 : Int), (rNumV (ee3 s) 1 : Int)⟩
def gEs (s : Option (List UInt8)) := ee4 s
def q1 (s : Option (List UInt8)) := rNumS s 8
def q2 (s : Option (List UInt8)) := rRest (q1 s) 6
def q3 (s : Option (List UInt8)) := rNumS (q2 s) 4
def q4 (s : Option (List UInt8)) := rNumS (q3 s) 8
def q5 (s : Option (List UInt8)) := rNumS (q4 s) 8
def q6 (s : Option (List UInt8)) := rNumS (q5 s) 8
def q7 (s : Option (List UInt8)) := rNumS (q6 s) 8
def n1 (s : Option (List UInt8)) := rNumV (q7 s) 1
def q8 (s : Option (List UInt8)) := rNumS (q7 s) 1
def q9 (s : Option (List UInt8)) := itS gCs (n1 s) (q8 s)
def n2 (s : Option (List UInt8)) := rNumV (q9 s) 1
def q10 (s : Option (List UInt8)) := rNumS (q9 s) 1
def q11 (s : Option (List UInt8)) := itS gXs (n2 s) (q10 s)
def q12 (s : Option (List UInt8)) := rNumS (q11 s) 1
def n3 (s : Option (List UInt8)) := rNumV (q12 s) 1
def q13 (s : Option (List UInt8)) := rNumS (q12 s) 1
def q14 (s : Option (List UInt8)) := itS gEs (n3 s) (q13 s)
/-- the ticket that is read off a reader -/
def gT (s : Option (List UInt8)) : Tk := ⟨(rNumV s 8 : Int), ⟨(rBy (q1 s) 6).toArray⟩, (rNumV (q2 s) 4 : Int), itL gC gCs (n1 s) (q8 s), itL gX gXs (n2 s) (q10 s), (rNumV (q3 s) 8 : Int), (rNumV (q4 s) 8 : Int), (rNumV (q5 s) 8 : Int), IntKind.i64.wrap (rNumV (q6 s) 8 : Int), (rNumV (q11 s) 1 : Int), itL gE gEs (n3 s) (q13 s)⟩
end Tkt
def mid (pre z post : List Value) : Array Value := (pre ++ (z ++ post)).toArray
theorem mid_at {pre z post : List Value} {P : Nat} (hp : pre.length = P) (i : Nat) {v : Value} (hz : z[i]? = some v) : (mid pre z post)[P + i]? = some v := by
  unfold mid
  subst hp
  rw [List.getElem?_toArray, List.getElem?_append_right (by omega), Nat.add_sub_cancel_left, List.getElem?_append_left (List.getElem?_eq_some_iff.1 hz).1, hz]
theorem mid_lt {pre z post : List Value} {P : Nat} (hp : pre.length = P) (i : Nat) (hz : i < z.length) : P + i < (mid pre z post).size := by
  unfold mid
  simp
  omega
theorem mid_set {pre z post : List Value} {P : Nat} (hp : pre.length = P) (i : Nat) (hz : i < z.length) (v : Value) : (mid pre z post).setIfInBounds (P + i) v = mid pre (z.set i v) post := by
  unfold mid
  subst hp
  rw [List.setIfInBounds_toArray, List.set_append_right _ _ (by omega), Nat.add_sub_cancel_left, List.set_append_left _ _ hz]
theorem mid_set_eq {w : World} {b : Nat} {e : TypeId} {pre z z' post : List Value} {P : Nat} (hp : pre.length = P) (i : Nat) {v : Value} (hz : decide (i < z.length) = true) (he : z.set i v = z') (h : w.heap[b]? = some (.cells ((mid pre z post).setIfInBounds (P + i) v) e (0, 0))) : w.heap[b]? = some (.cells (mid pre z' post) e (0, 0)) := by
  rw [mid_set hp i (by simpa using hz), he] at h
  exact h
/-- a row of records of which some have been read -/
def rowJ {α : Type} (en : α → List Value) (z : α) (N : Nat) (g : Option (List UInt8) → α) (f : Option (List UInt8) → Option (List UInt8)) (s : Option (List UInt8)) (j : Nat) : Array Value := (encL en (Tkt.itL g f j s) ++ encL en (List.replicate (N - j) z)).toArray
section
variable {α : Type} {en : α → List Value} {z : α} {N : Nat} {g : Option (List UInt8) → α} {f : Option (List UInt8) → Option (List UInt8)} {s : Option (List UInt8)} {j : Nat}
theorem rowJ_zero : rowJ en z N g f s 0 = (encL en (List.replicate N z)).toArray := by unfold rowJ; rfl
theorem rowJ_all : rowJ en z N g f s N = (encL en (Tkt.itL g f N s)).toArray := by unfold rowJ; rw [Nat.sub_self]; simp [encL]
theorem rowJ_mid (h : j < N) : rowJ en z N g f s j = mid (encL en (Tkt.itL g f j s)) (en z) (encL en (List.replicate (N - j - 1) z)) := by
  unfold rowJ mid
  have e : N - j = (N - j - 1) + 1 := by omega
  rw [e, List.replicate_succ, Nat.add_sub_cancel]
  rfl
theorem rowJ_next (h : j < N) : rowJ en z N g f s (j + 1) = mid (encL en (Tkt.itL g f j s)) (en (g (Tkt.itS f j s))) (encL en (List.replicate (N - j - 1) z)) := by
  unfold rowJ mid
  rw [Tkt.itL, encL_append, List.append_assoc, Nat.sub_sub]
  congr 2
  simp [encL]
end
theorem n_leG (s : Option (List UInt8)) : rNumV s 1 ≤ maxLen := Nat.le_of_lt (Nat.lt_of_lt_of_le (rNumV_lt s 1) (by unfold maxLen; decide))
/-- where a ticket's walk stands -/
structure RAt (a W : World) (base br r g : Nat) (st : Option (List UInt8)) (tk : Array Value) : Prop where
  i : IsR W base br st
  rr : W.heap[r]? = some (.cells #[.pointer none, .pointer (some ⟨br, 0, none⟩)] 109 (0, 0))
  rg : W.heap[g]? = some (.cells tk 27 (0, 0))
  b : Below base a W
  gb : base ≤ g
  k : KeptB g a W
theorem RAt.ne {a W : World} {base br r g : Nat} {st : Option (List UInt8)} {tk : Array Value} (h : RAt a W base br r g st tk) : r ≠ g := row_neT h.rr h.rg (by decide)
theorem RAt.below {a W W' : World} {base br r g : Nat} {st : Option (List UInt8)} {tk : Array Value} (h : RAt a W base br r g st tk) (hb : Below W.heap.size W W') : RAt a W' base br r g st tk :=
  ⟨h.i.below hb, (hb.block _ (block_lt h.rr)).trans h.rr, (hb.block _ (block_lt h.rg)).trans h.rg, h.b.trans (hb.mono (Nat.le_trans h.i.lt.1 (Nat.le_of_lt h.i.lt.2))), h.gb, h.k.trans (.of_below hb)⟩
theorem RAt.drew {a W : World} {base br r g : Nat} {st : Option (List UInt8)} {tk : Array Value} (h : RAt a W base br r g st tk) : RAt a W.drew base br r g st tk := h.below (Below.refl _ _).drew
theorem RAt.step {a W W' : World} {base br r g : Nat} {st st' : Option (List UInt8)} {tk tk' : Array Value} (h : RAt a W base br r g st tk) (hs : GS W W' base br st' g 27 tk') : RAt a W' base br r g st' tk' :=
  ⟨hs.i, hs.row h.rr h.ne (by decide), hs.r, h.b.trans hs.b, h.gb, h.k.trans hs.k⟩
theorem RAt.step2 {a W W' : World} {base br r g b : Nat} {e : TypeId} {cs' : Array Value} {st st' : Option (List UInt8)} {tk : Array Value} (h : RAt a W base br r g st tk) (hs : GS W W' base br st' b e cs') (hr : b ≠ r) (hg : b ≠ g) (ha : a.heap.size ≤ b) : RAt a W' base br r g st' tk :=
  ⟨hs.i, hs.row h.rr (Ne.symm hr) (by decide), hs.row h.rg (Ne.symm hg) (by decide), h.b.trans hs.b, h.gb, ⟨Nat.le_trans h.k.size hs.k.size, fun i cs t fr hi h1 h2 => hs.k.block i cs t fr (by have := block_lt h1; omega) (h.k.block i cs t fr hi h1 h2) h2⟩⟩
theorem RAt.keep {a W W' : World} {base br r g : Nat} {st st' : Option (List UInt8)} {tk : Array Value} (h : RAt a W base br r g st tk) (hi : IsR W' base br st') (hb : Below base W W') (hk : Kept RT W W') : RAt a W' base br r g st' tk :=
  ⟨hi, hk.row h.rr (by decide), hk.row h.rg (by decide), h.b.trans hb, h.gb, h.k.trans (.of_kept hk)⟩
theorem RAt.set {a W : World} {base br r g : Nat} {st : Option (List UInt8)} {tk : Array Value} (h : RAt a W base br r g st tk) (o : Nat) (v : Value) : RAt a (W.setCell ⟨g, o, none⟩ v) base br r g st (tk.setIfInBounds o v) :=
  ⟨h.i.set h.rg (by decide) o v, (heap_setCell_other W ⟨g, o, none⟩ r v h.ne).trans h.rr, heap_setCell_same _ _ _ _ _ _ h.rg, h.b.setCell h.gb v, h.gb, h.k.set o v⟩
theorem row_set {W : World} {c g : Nat} {ob : Obj} (h : W.heap[c]? = some ob) (hne : c ≠ g) (o : Nat) (v : Value) : (W.setCell ⟨g, o, none⟩ v).heap[c]? = some ob := (heap_setCell_other W ⟨g, o, none⟩ c v hne).trans h
theorem own_rowG {α : Type} {enc : α → List Value} {n : Nat} {w : World} {base e g m : Nat} {l : List α} (hg : w.heap[g]? = some (.cells (encL enc l).toArray e (0, 0))) (hn : ∀ x, (enc x).length = n) (hl : l.length = m) (hm : m ≤ maxLen) (hb : base ≤ g) : w.ownsRow base e n (.slice (some ⟨g, 0, none⟩) m m) m (encL enc l) := by
  have hlen : (encL enc l).length = m * n := by rw [encL_length hn, hl]
  refine ⟨hlen, .inr ⟨g, m, _, rfl, hb, hg, Nat.le_refl _, hm, by simp [hlen], ?_⟩⟩
  rw [List.toList_toArray, List.take_of_length_le (by omega)]

set_option maxRecDepth 8000 in
set_option maxHeartbeats 8000000 in
theorem gticket_any (base br : Nat) (st : Option (List UInt8)) (w : World) (g : Nat) (hi : IsR w base br st) (hrow : w.heap[g]? = some (.cells #[.int .u64 0, .string ⟨#[]⟩, .int .i64 0, .slice none 0 0, .slice none 0 0, .int .u64 0, .int .u64 0, .int .u64 0, .int .i64 0, .int .i64 0, .slice none 0 0] 27 (0, 0))) (hgb : base ≤ g) :
    Calls Try.prog 68 #[.agg #[.pointer none, .pointer (some ⟨br, 0, none⟩)], .pointer (some ⟨g, 0, none⟩)] w fun e w' => e = .returned (.tuple #[]) ∧ ∃ c x h : Sl, w'.heap[g]? = some (.cells #[.int .u64 (Tkt.gT st).num, .string (Tkt.gT st).loc, .int .i64 (Tkt.gT st).iss, .slice c.p c.n c.c, .slice x.p x.n x.c, .int .u64 (Tkt.gT st).prev, .int .u64 (Tkt.gT st).org, .int .u64 (Tkt.gT st).fst, .int .i64 (Tkt.gT st).vou, .int .i64 (Tkt.gT st).posts, .slice h.p h.n h.c] 27 (0, 0)) ∧ IsR w' base br (Tkt.q14 st) ∧ Below base w w' ∧ KeptB g w w' ∧ w'.ownsRow base 44 6 (.slice c.p c.n c.c) c.n (encL Cpn.cells (Tkt.gT st).cs) ∧ w'.ownsRow base 48 2 (.slice x.p x.n x.c) x.n (encL Txx.cells (Tkt.gT st).ts) ∧ w'.ownsRow base 46 4 (.slice h.p h.n h.c) h.n (encL Evt.cells (Tkt.gT st).hs) := by
  have hb1 := (Below.refl w.heap.size w).alloc (Nat.le_refl _) (.cells #[.pointer none, .pointer (some ⟨br, 0, none⟩)] 109 (0, 0))
  have HA : Hid (RAt (w.alloc (.cells #[.pointer none, .pointer (some ⟨br, 0, none⟩)] 109 (0, 0))) (w.alloc (.cells #[.pointer none, .pointer (some ⟨br, 0, none⟩)] 109 (0, 0))) base br w.heap.size g st #[.int .u64 0, .string ⟨#[]⟩, .int .i64 0, .slice none 0 0, .slice none 0 0, .int .u64 0, .int .u64 0, .int .u64 0, .int .i64 0, .int .i64 0, .slice none 0 0]) := Lib.hid ⟨hi.below hb1, new_rowW _ _ _ rfl, row_after hrow, Below.refl _ _, hgb, .refl _ _⟩
  have HPRE : Hid (∀ W, Below base (w.alloc (.cells #[.pointer none, .pointer (some ⟨br, 0, none⟩)] 109 (0, 0))) W → Below base w W) := Lib.hid (fun W hs => (hb1.mono (Nat.le_trans hi.lt.1 (Nat.le_of_lt hi.lt.2))).trans hs)
  have HPK : Hid (∀ W, KeptB g (w.alloc (.cells #[.pointer none, .pointer (some ⟨br, 0, none⟩)] 109 (0, 0))) W → KeptB g w W) := Lib.hid (fun W hs => (KeptB.of_below hb1).trans hs)
  clear hb1 hi hrow hgb
  go_enter Try.func68, Try.ntmps68
  go_wp2_with fail
  obtain ⟨w0, hw0⟩ : ∃ w0, w.alloc (.cells #[.pointer none, .pointer (some ⟨br, 0, none⟩)] 109 (0, 0)) = w0 := ⟨_, rfl⟩
  rw [hw0] at HA HPRE HPK ⊢
  clear hw0
  have HA1 := HA
  generalize hww : w0 = w1 at HA1 ⊢
  have HA : Hid (RAt w0 w1 base br w.heap.size g st #[.int .u64 0, .string ⟨#[]⟩, .int .i64 0, .slice none 0 0, .slice none 0 0, .int .u64 0, .int .u64 0, .int .u64 0, .int .i64 0, .int .i64 0, .slice none 0 0]) := Lib.hid (by rw [← hww]; exact HA.out)
  clear HA1 hww
  refine wp_region_G (C := fun W => W.cell? ⟨w.heap.size, 0, none⟩ = some (.pointer none) ∧ W.cell? ⟨w.heap.size, 1, none⟩ = some (.pointer (some ⟨br, 0, none⟩))) (s0 := 6) (by kernel_rfl) ?_
  have HA := Lib.hid HA.out.drew
  generalize w1.drew = wd at *
  have hHeld : (wd.cell? ⟨w.heap.size, 0, none⟩ = some (.pointer none) ∧ wd.cell? ⟨w.heap.size, 1, none⟩ = some (.pointer (some ⟨br, 0, none⟩))) := ⟨cell_of_row _ _ 0 _ _ _ HA.out.rr, cell_of_row _ _ 1 _ _ _ HA.out.rr⟩
  refine wpAnyG_takeM (i := 0) (oi := { dst := some 9, op := Op.load 109 (Operand.tmp 2), type := 109, pos := "ticket.go:174", after := #[], guard := none }) (v := ?_) (ms := [1, 6]) rfl (by kernel_rfl) (by kernel_rfl) (by kernel_rfl) (by kernel_rfl) (by kernel_rfl) (fun _ _ _ h => h) (Or.inl ⟨by rfl, ?_⟩) (by assumption) ?_
  rotate_left
  · intro w hSw; (try dsimp only at hSw); go_simp; try with_reducible rfl
  try simp only [Act.put, List.setIfInBounds_toArray, List.set_cons_zero, List.set_cons_succ]
  refine wpAnyG_takeU (i := 1) (oi := { dst := some 10, op := Op.makeFunc (Fn.func 126) #[Operand.tmp 9] #[], type := 153, pos := "ticket.go:174", after := #[{ on := 0, ground := Ground.data }], guard := none }) (v := ?_) rfl (by kernel_rfl) (by kernel_rfl) (by kernel_rfl) (by decide) (fun _ _ _ h => h) (Or.inl ⟨by rfl, ?_⟩) (by first | exact .inl (by assumption) | exact .inr rfl) ?_
  rotate_left
  · intro w hSw; go_simp; try with_reducible rfl
  try simp only [Act.put, List.setIfInBounds_toArray, List.set_cons_zero, List.set_cons_succ]
  refine wpAnyG_takeU (i := 2) (oi := { dst := some 11, op := Op.move (Operand.tmp 1), type := 111, pos := "ticket.go:174", after := #[], guard := none }) (v := ?_) rfl (by kernel_rfl) (by kernel_rfl) (by kernel_rfl) (by decide) (fun _ _ _ h => h) (Or.inl ⟨by rfl, ?_⟩) (by first | exact .inl (by assumption) | exact .inr rfl) ?_
  rotate_left
  · intro w hSw; go_simp; try with_reducible rfl
  try simp only [Act.put, List.setIfInBounds_toArray, List.set_cons_zero, List.set_cons_succ]
  refine wpAnyG_takeU (i := 3) (oi := { dst := some 12, op := Op.nilCheck (Operand.tmp 11), type := 0, pos := "ticket.go:174", after := #[{ on := 2, ground := Ground.data }], guard := none }) (v := ?_) rfl (by kernel_rfl) (by kernel_rfl) (by kernel_rfl) (by decide) (fun _ _ _ h => h) (Or.inl ⟨by rfl, ?_⟩) (by first | exact .inl (by assumption) | exact .inr rfl) ?_
  rotate_left
  · intro w hSw; go_simp; try with_reducible rfl
  try simp only [Act.put, List.setIfInBounds_toArray, List.set_cons_zero, List.set_cons_succ]
  refine wpAnyG_takeU (i := 4) (oi := { dst := some 13, op := Op.fieldAddr 27 (Operand.tmp 12) 0, type := 0, pos := "ticket.go:174", after := #[{ on := 3, ground := Ground.data }], guard := none }) (v := ?_) rfl (by kernel_rfl) (by kernel_rfl) (by kernel_rfl) (by decide) (fun _ _ _ h => h) (Or.inl ⟨by rfl, ?_⟩) (by first | exact .inl (by assumption) | exact .inr rfl) ?_
  rotate_left
  · intro w hSw; go_simp; try with_reducible rfl
  try simp only [Act.put, List.setIfInBounds_toArray, List.set_cons_zero, List.set_cons_succ]
  refine wpAnyG_one (i := 5) (o := { dst := some 14, op := Op.buildSlice 188 1 #[(0, Operand.tmp 13)], type := 188, pos := "ticket.go:174", after := #[{ on := 4, ground := Ground.data }], guard := none }) (by kernel_rfl) rfl (fun K hK => ?_)
  go_simp
  have hbn := (Below.refl wd.heap.size wd).alloc (Nat.le_refl _) (.cells #[.pointer (some ⟨g, 0, none⟩)] 154 (0, 0))
  have HA := Lib.hid (HA.out.below hbn)
  have HGL := Lib.hid (new_rowW wd (.cells #[.pointer (some ⟨g, 0, none⟩)] 154 (0, 0)) _ rfl)
  clear hbn
  refine hK.out _ _ (.inl ⟨cell_of_row _ _ 0 _ _ _ HA.out.rr, cell_of_row _ _ 1 _ _ _ HA.out.rr⟩) ?_
  clear hK K
  try simp only [Act.put, List.setIfInBounds_toArray, List.set_cons_zero, List.set_cons_succ]
  refine wpAnyG_one (i := 6) (o := { dst := some 15, op := Op.call { callee := Callee.value (Operand.func 125), args := #[Operand.tmp 10, Operand.const (Value.int IntKind.i64 8), Operand.tmp 14], argTypes := #[153, 3, 188] }, type := 0, pos := "ticket.go:174", after := #[{ on := 1, ground := Ground.data }, { on := 5, ground := Ground.data }], guard := none }) (by kernel_rfl) rfl (fun K hK => ?_)
  go_simp
  go_at_call 125
  refine (gover_any base br _ [0] _ HA.out.i g _ _ HA.out.rg (by decide) (by decide) HA.out.gb (by simp) (by simp) _ 1 (by simp) HGL.out).mono ?_
  rintro e wq ⟨rfl, hs⟩
  have HA : Hid (RAt w0 wq base br w.heap.size g (Tkt.q1 st) #[.int .u64 (rNumV st 8 : Int), .string ⟨#[]⟩, .int .i64 0, .slice none 0 0, .slice none 0 0, .int .u64 0, .int .u64 0, .int .u64 0, .int .i64 0, .int .i64 0, .slice none 0 0]) := Lib.hid (HA.out.step hs)
  clear hs
  clear HGL
  refine hK.out _ _ (.inr rfl) ?_
  clear hK K
  try simp only [Act.put, List.setIfInBounds_toArray, List.set_cons_zero, List.set_cons_succ]
  refine wpAnyG_done (by kernel_rfl) ?_ _
  clear hHeld
  go_wp2_with fail
  refine wp_region_G (C := fun W => W.cell? ⟨w.heap.size, 0, none⟩ = some (.pointer none) ∧ W.cell? ⟨w.heap.size, 1, none⟩ = some (.pointer (some ⟨br, 0, none⟩))) (s0 := 4) (by kernel_rfl) ?_
  have HA := Lib.hid HA.out.drew
  generalize wq.drew = wd at *
  have hHeld : (wd.cell? ⟨w.heap.size, 0, none⟩ = some (.pointer none) ∧ wd.cell? ⟨w.heap.size, 1, none⟩ = some (.pointer (some ⟨br, 0, none⟩))) := ⟨cell_of_row _ _ 0 _ _ _ HA.out.rr, cell_of_row _ _ 1 _ _ _ HA.out.rr⟩
  refine wpAnyG_takeM (i := 0) (oi := { dst := some 16, op := Op.load 109 (Operand.tmp 2), type := 109, pos := "ticket.go:175", after := #[], guard := none }) (v := ?_) (ms := [4]) rfl (by kernel_rfl) (by kernel_rfl) (by kernel_rfl) (by kernel_rfl) (by kernel_rfl) (fun _ _ _ h => h) (Or.inl ⟨by rfl, ?_⟩) (by assumption) ?_
  rotate_left
  · intro w hSw; (try dsimp only at hSw); go_simp; try with_reducible rfl
  try simp only [Act.put, List.setIfInBounds_toArray, List.set_cons_zero, List.set_cons_succ]
  refine wpAnyG_takeU (i := 1) (oi := { dst := some 17, op := Op.move (Operand.tmp 1), type := 111, pos := "ticket.go:175", after := #[], guard := none }) (v := ?_) rfl (by kernel_rfl) (by kernel_rfl) (by kernel_rfl) (by decide) (fun _ _ _ h => h) (Or.inl ⟨by rfl, ?_⟩) (by first | exact .inl (by assumption) | exact .inr rfl) ?_
  rotate_left
  · intro w hSw; go_simp; try with_reducible rfl
  try simp only [Act.put, List.setIfInBounds_toArray, List.set_cons_zero, List.set_cons_succ]
  refine wpAnyG_takeU (i := 2) (oi := { dst := some 18, op := Op.nilCheck (Operand.tmp 17), type := 0, pos := "ticket.go:175", after := #[{ on := 1, ground := Ground.data }], guard := none }) (v := ?_) rfl (by kernel_rfl) (by kernel_rfl) (by kernel_rfl) (by decide) (fun _ _ _ h => h) (Or.inl ⟨by rfl, ?_⟩) (by first | exact .inl (by assumption) | exact .inr rfl) ?_
  rotate_left
  · intro w hSw; go_simp; try with_reducible rfl
  try simp only [Act.put, List.setIfInBounds_toArray, List.set_cons_zero, List.set_cons_succ]
  refine wpAnyG_takeU (i := 3) (oi := { dst := some 19, op := Op.fieldAddr 27 (Operand.tmp 18) 1, type := 0, pos := "ticket.go:175", after := #[{ on := 2, ground := Ground.data }], guard := none }) (v := ?_) rfl (by kernel_rfl) (by kernel_rfl) (by kernel_rfl) (by decide) (fun _ _ _ h => h) (Or.inl ⟨by rfl, ?_⟩) (by first | exact .inl (by assumption) | exact .inr rfl) ?_
  rotate_left
  · intro w hSw; go_simp; try with_reducible rfl
  try simp only [Act.put, List.setIfInBounds_toArray, List.set_cons_zero, List.set_cons_succ]
  refine wpAnyG_one (i := 4) (o := { dst := some 20, op := Op.call { callee := Callee.value (Operand.func 127), args := #[Operand.tmp 16, Operand.tmp 19], argTypes := #[109, 156] }, type := 0, pos := "ticket.go:175", after := #[{ on := 0, ground := Ground.data }, { on := 3, ground := Ground.data }], guard := none }) (by kernel_rfl) rfl (fun K hK => ?_)
  go_simp
  go_at_call 127
  refine (gtext_any base br _ _ HA.out.i g (1) _ _ HA.out.rg (by decide) HA.out.gb _ rfl).mono ?_
  rintro e wq ⟨rfl, hs⟩
  have HA : Hid (RAt w0 wq base br w.heap.size g (Tkt.q2 st) #[.int .u64 (rNumV st 8 : Int), .string ⟨(rBy (Tkt.q1 st) 6).toArray⟩, .int .i64 0, .slice none 0 0, .slice none 0 0, .int .u64 0, .int .u64 0, .int .u64 0, .int .i64 0, .int .i64 0, .slice none 0 0]) := Lib.hid (HA.out.step hs)
  clear hs
  refine hK.out _ _ (.inr rfl) ?_
  clear hK K
  try simp only [Act.put, List.setIfInBounds_toArray, List.set_cons_zero, List.set_cons_succ]
  refine wpAnyG_done (by kernel_rfl) ?_ _
  clear hHeld
  go_wp2_with fail
  refine wp_region_G (C := fun W => W.cell? ⟨w.heap.size, 0, none⟩ = some (.pointer none) ∧ W.cell? ⟨w.heap.size, 1, none⟩ = some (.pointer (some ⟨br, 0, none⟩))) (s0 := 4) (by kernel_rfl) ?_
  have HA := Lib.hid HA.out.drew
  generalize wq.drew = wd at *
  have hHeld : (wd.cell? ⟨w.heap.size, 0, none⟩ = some (.pointer none) ∧ wd.cell? ⟨w.heap.size, 1, none⟩ = some (.pointer (some ⟨br, 0, none⟩))) := ⟨cell_of_row _ _ 0 _ _ _ HA.out.rr, cell_of_row _ _ 1 _ _ _ HA.out.rr⟩
  refine wpAnyG_takeM (i := 0) (oi := { dst := some 21, op := Op.load 109 (Operand.tmp 2), type := 109, pos := "ticket.go:176", after := #[], guard := none }) (v := ?_) (ms := [4]) rfl (by kernel_rfl) (by kernel_rfl) (by kernel_rfl) (by kernel_rfl) (by kernel_rfl) (fun _ _ _ h => h) (Or.inl ⟨by rfl, ?_⟩) (by assumption) ?_
  rotate_left
  · intro w hSw; (try dsimp only at hSw); go_simp; try with_reducible rfl
  try simp only [Act.put, List.setIfInBounds_toArray, List.set_cons_zero, List.set_cons_succ]
  refine wpAnyG_takeU (i := 1) (oi := { dst := some 22, op := Op.move (Operand.tmp 1), type := 111, pos := "ticket.go:176", after := #[], guard := none }) (v := ?_) rfl (by kernel_rfl) (by kernel_rfl) (by kernel_rfl) (by decide) (fun _ _ _ h => h) (Or.inl ⟨by rfl, ?_⟩) (by first | exact .inl (by assumption) | exact .inr rfl) ?_
  rotate_left
  · intro w hSw; go_simp; try with_reducible rfl
  try simp only [Act.put, List.setIfInBounds_toArray, List.set_cons_zero, List.set_cons_succ]
  refine wpAnyG_takeU (i := 2) (oi := { dst := some 23, op := Op.nilCheck (Operand.tmp 22), type := 0, pos := "ticket.go:176", after := #[{ on := 1, ground := Ground.data }], guard := none }) (v := ?_) rfl (by kernel_rfl) (by kernel_rfl) (by kernel_rfl) (by decide) (fun _ _ _ h => h) (Or.inl ⟨by rfl, ?_⟩) (by first | exact .inl (by assumption) | exact .inr rfl) ?_
  rotate_left
  · intro w hSw; go_simp; try with_reducible rfl
  try simp only [Act.put, List.setIfInBounds_toArray, List.set_cons_zero, List.set_cons_succ]
  refine wpAnyG_takeU (i := 3) (oi := { dst := some 24, op := Op.fieldAddr 27 (Operand.tmp 23) 2, type := 0, pos := "ticket.go:176", after := #[{ on := 2, ground := Ground.data }], guard := none }) (v := ?_) rfl (by kernel_rfl) (by kernel_rfl) (by kernel_rfl) (by decide) (fun _ _ _ h => h) (Or.inl ⟨by rfl, ?_⟩) (by first | exact .inl (by assumption) | exact .inr rfl) ?_
  rotate_left
  · intro w hSw; go_simp; try with_reducible rfl
  try simp only [Act.put, List.setIfInBounds_toArray, List.set_cons_zero, List.set_cons_succ]
  refine wpAnyG_one (i := 4) (o := { dst := some 25, op := Op.call { callee := Callee.value (Operand.func 128), args := #[Operand.tmp 21, Operand.tmp 24, Operand.const (Value.int IntKind.i64 4)], argTypes := #[109, 158, 3] }, type := 0, pos := "ticket.go:176", after := #[{ on := 0, ground := Ground.data }, { on := 3, ground := Ground.data }], guard := none }) (by kernel_rfl) rfl (fun K hK => ?_)
  go_simp
  go_at_call 128
  refine (gwhole_any base br _ 4 (by decide) _ HA.out.i g (2) _ _ HA.out.rg (by decide) HA.out.gb _ rfl).mono ?_
  rintro e wq ⟨rfl, hs⟩
  have HA : Hid (RAt w0 wq base br w.heap.size g (Tkt.q3 st) #[.int .u64 (rNumV st 8 : Int), .string ⟨(rBy (Tkt.q1 st) 6).toArray⟩, .int .i64 (rNumV (Tkt.q2 st) 4 : Int), .slice none 0 0, .slice none 0 0, .int .u64 0, .int .u64 0, .int .u64 0, .int .i64 0, .int .i64 0, .slice none 0 0]) := Lib.hid (HA.out.step hs)
  clear hs
  refine hK.out _ _ (.inr rfl) ?_
  clear hK K
  try simp only [Act.put, List.setIfInBounds_toArray, List.set_cons_zero, List.set_cons_succ]
  refine wpAnyG_done (by kernel_rfl) ?_ _
  clear hHeld
  go_wp2_with fail
  refine wp_region_G (C := fun W => W.cell? ⟨w.heap.size, 0, none⟩ = some (.pointer none) ∧ W.cell? ⟨w.heap.size, 1, none⟩ = some (.pointer (some ⟨br, 0, none⟩))) (s0 := 12) (by kernel_rfl) ?_
  have HA := Lib.hid HA.out.drew
  generalize wq.drew = wd at *
  have hHeld : (wd.cell? ⟨w.heap.size, 0, none⟩ = some (.pointer none) ∧ wd.cell? ⟨w.heap.size, 1, none⟩ = some (.pointer (some ⟨br, 0, none⟩))) := ⟨cell_of_row _ _ 0 _ _ _ HA.out.rr, cell_of_row _ _ 1 _ _ _ HA.out.rr⟩
  refine wpAnyG_takeM (i := 0) (oi := { dst := some 26, op := Op.load 109 (Operand.tmp 2), type := 109, pos := "ticket.go:177", after := #[], guard := none }) (v := ?_) (ms := [1, 12]) rfl (by kernel_rfl) (by kernel_rfl) (by kernel_rfl) (by kernel_rfl) (by kernel_rfl) (fun _ _ _ h => h) (Or.inl ⟨by rfl, ?_⟩) (by assumption) ?_
  rotate_left
  · intro w hSw; (try dsimp only at hSw); go_simp; try with_reducible rfl
  try simp only [Act.put, List.setIfInBounds_toArray, List.set_cons_zero, List.set_cons_succ]
  refine wpAnyG_takeU (i := 1) (oi := { dst := some 27, op := Op.makeFunc (Fn.func 126) #[Operand.tmp 26] #[], type := 153, pos := "ticket.go:177", after := #[{ on := 0, ground := Ground.data }], guard := none }) (v := ?_) rfl (by kernel_rfl) (by kernel_rfl) (by kernel_rfl) (by decide) (fun _ _ _ h => h) (Or.inl ⟨by rfl, ?_⟩) (by first | exact .inl (by assumption) | exact .inr rfl) ?_
  rotate_left
  · intro w hSw; go_simp; try with_reducible rfl
  try simp only [Act.put, List.setIfInBounds_toArray, List.set_cons_zero, List.set_cons_succ]
  refine wpAnyG_takeU (i := 2) (oi := { dst := some 28, op := Op.move (Operand.tmp 1), type := 111, pos := "ticket.go:177", after := #[], guard := none }) (v := ?_) rfl (by kernel_rfl) (by kernel_rfl) (by kernel_rfl) (by decide) (fun _ _ _ h => h) (Or.inl ⟨by rfl, ?_⟩) (by first | exact .inl (by assumption) | exact .inr rfl) ?_
  rotate_left
  · intro w hSw; go_simp; try with_reducible rfl
  try simp only [Act.put, List.setIfInBounds_toArray, List.set_cons_zero, List.set_cons_succ]
  refine wpAnyG_takeU (i := 3) (oi := { dst := some 29, op := Op.nilCheck (Operand.tmp 28), type := 0, pos := "ticket.go:177", after := #[{ on := 2, ground := Ground.data }], guard := none }) (v := ?_) rfl (by kernel_rfl) (by kernel_rfl) (by kernel_rfl) (by decide) (fun _ _ _ h => h) (Or.inl ⟨by rfl, ?_⟩) (by first | exact .inl (by assumption) | exact .inr rfl) ?_
  rotate_left
  · intro w hSw; go_simp; try with_reducible rfl
  try simp only [Act.put, List.setIfInBounds_toArray, List.set_cons_zero, List.set_cons_succ]
  refine wpAnyG_takeU (i := 4) (oi := { dst := some 30, op := Op.fieldAddr 27 (Operand.tmp 29) 5, type := 0, pos := "ticket.go:177", after := #[{ on := 3, ground := Ground.data }], guard := none }) (v := ?_) rfl (by kernel_rfl) (by kernel_rfl) (by kernel_rfl) (by decide) (fun _ _ _ h => h) (Or.inl ⟨by rfl, ?_⟩) (by first | exact .inl (by assumption) | exact .inr rfl) ?_
  rotate_left
  · intro w hSw; go_simp; try with_reducible rfl
  try simp only [Act.put, List.setIfInBounds_toArray, List.set_cons_zero, List.set_cons_succ]
  refine wpAnyG_takeU (i := 5) (oi := { dst := some 31, op := Op.move (Operand.tmp 1), type := 111, pos := "ticket.go:177", after := #[], guard := none }) (v := ?_) rfl (by kernel_rfl) (by kernel_rfl) (by kernel_rfl) (by decide) (fun _ _ _ h => h) (Or.inl ⟨by rfl, ?_⟩) (by first | exact .inl (by assumption) | exact .inr rfl) ?_
  rotate_left
  · intro w hSw; go_simp; try with_reducible rfl
  try simp only [Act.put, List.setIfInBounds_toArray, List.set_cons_zero, List.set_cons_succ]
  refine wpAnyG_takeU (i := 6) (oi := { dst := some 32, op := Op.nilCheck (Operand.tmp 31), type := 0, pos := "ticket.go:177", after := #[{ on := 5, ground := Ground.data }], guard := none }) (v := ?_) rfl (by kernel_rfl) (by kernel_rfl) (by kernel_rfl) (by decide) (fun _ _ _ h => h) (Or.inl ⟨by rfl, ?_⟩) (by first | exact .inl (by assumption) | exact .inr rfl) ?_
  rotate_left
  · intro w hSw; go_simp; try with_reducible rfl
  try simp only [Act.put, List.setIfInBounds_toArray, List.set_cons_zero, List.set_cons_succ]
  refine wpAnyG_takeU (i := 7) (oi := { dst := some 33, op := Op.fieldAddr 27 (Operand.tmp 32) 6, type := 0, pos := "ticket.go:177", after := #[{ on := 6, ground := Ground.data }], guard := none }) (v := ?_) rfl (by kernel_rfl) (by kernel_rfl) (by kernel_rfl) (by decide) (fun _ _ _ h => h) (Or.inl ⟨by rfl, ?_⟩) (by first | exact .inl (by assumption) | exact .inr rfl) ?_
  rotate_left
  · intro w hSw; go_simp; try with_reducible rfl
  try simp only [Act.put, List.setIfInBounds_toArray, List.set_cons_zero, List.set_cons_succ]
  refine wpAnyG_takeU (i := 8) (oi := { dst := some 34, op := Op.move (Operand.tmp 1), type := 111, pos := "ticket.go:177", after := #[], guard := none }) (v := ?_) rfl (by kernel_rfl) (by kernel_rfl) (by kernel_rfl) (by decide) (fun _ _ _ h => h) (Or.inl ⟨by rfl, ?_⟩) (by first | exact .inl (by assumption) | exact .inr rfl) ?_
  rotate_left
  · intro w hSw; go_simp; try with_reducible rfl
  try simp only [Act.put, List.setIfInBounds_toArray, List.set_cons_zero, List.set_cons_succ]
  refine wpAnyG_takeU (i := 9) (oi := { dst := some 35, op := Op.nilCheck (Operand.tmp 34), type := 0, pos := "ticket.go:177", after := #[{ on := 8, ground := Ground.data }], guard := none }) (v := ?_) rfl (by kernel_rfl) (by kernel_rfl) (by kernel_rfl) (by decide) (fun _ _ _ h => h) (Or.inl ⟨by rfl, ?_⟩) (by first | exact .inl (by assumption) | exact .inr rfl) ?_
  rotate_left
  · intro w hSw; go_simp; try with_reducible rfl
  try simp only [Act.put, List.setIfInBounds_toArray, List.set_cons_zero, List.set_cons_succ]
  refine wpAnyG_takeU (i := 10) (oi := { dst := some 36, op := Op.fieldAddr 27 (Operand.tmp 35) 7, type := 0, pos := "ticket.go:177", after := #[{ on := 9, ground := Ground.data }], guard := none }) (v := ?_) rfl (by kernel_rfl) (by kernel_rfl) (by kernel_rfl) (by decide) (fun _ _ _ h => h) (Or.inl ⟨by rfl, ?_⟩) (by first | exact .inl (by assumption) | exact .inr rfl) ?_
  rotate_left
  · intro w hSw; go_simp; try with_reducible rfl
  try simp only [Act.put, List.setIfInBounds_toArray, List.set_cons_zero, List.set_cons_succ]
  refine wpAnyG_one (i := 11) (o := { dst := some 37, op := Op.buildSlice 188 3 #[(0, Operand.tmp 30), (1, Operand.tmp 33), (2, Operand.tmp 36)], type := 188, pos := "ticket.go:177", after := #[{ on := 4, ground := Ground.data }, { on := 7, ground := Ground.data }, { on := 10, ground := Ground.data }], guard := none }) (by kernel_rfl) rfl (fun K hK => ?_)
  go_simp
  have hbn := (Below.refl wd.heap.size wd).alloc (Nat.le_refl _) (.cells #[.pointer (some ⟨g, 5, none⟩), .pointer (some ⟨g, 6, none⟩), .pointer (some ⟨g, 7, none⟩)] 154 (0, 0))
  have HA := Lib.hid (HA.out.below hbn)
  have HGL := Lib.hid (new_rowW wd (.cells #[.pointer (some ⟨g, 5, none⟩), .pointer (some ⟨g, 6, none⟩), .pointer (some ⟨g, 7, none⟩)] 154 (0, 0)) _ rfl)
  clear hbn
  refine hK.out _ _ (.inl ⟨cell_of_row _ _ 0 _ _ _ HA.out.rr, cell_of_row _ _ 1 _ _ _ HA.out.rr⟩) ?_
  clear hK K
  try simp only [Act.put, List.setIfInBounds_toArray, List.set_cons_zero, List.set_cons_succ]
  refine wpAnyG_one (i := 12) (o := { dst := some 38, op := Op.call { callee := Callee.value (Operand.func 125), args := #[Operand.tmp 27, Operand.const (Value.int IntKind.i64 8), Operand.tmp 37], argTypes := #[153, 3, 188] }, type := 0, pos := "ticket.go:177", after := #[{ on := 1, ground := Ground.data }, { on := 11, ground := Ground.data }], guard := none }) (by kernel_rfl) rfl (fun K hK => ?_)
  go_simp
  go_at_call 125
  refine (gover_any base br _ [5, 6, 7] _ HA.out.i g _ _ HA.out.rg (by decide) (by decide) HA.out.gb (by simp) (by simp) _ 3 (by simp) HGL.out).mono ?_
  rintro e wq ⟨rfl, hs⟩
  have HA : Hid (RAt w0 wq base br w.heap.size g (Tkt.q6 st) #[.int .u64 (rNumV st 8 : Int), .string ⟨(rBy (Tkt.q1 st) 6).toArray⟩, .int .i64 (rNumV (Tkt.q2 st) 4 : Int), .slice none 0 0, .slice none 0 0, .int .u64 (rNumV (Tkt.q3 st) 8 : Int), .int .u64 (rNumV (Tkt.q4 st) 8 : Int), .int .u64 (rNumV (Tkt.q5 st) 8 : Int), .int .i64 0, .int .i64 0, .slice none 0 0]) := Lib.hid (HA.out.step hs)
  clear hs
  clear HGL
  refine hK.out _ _ (.inr rfl) ?_
  clear hK K
  try simp only [Act.put, List.setIfInBounds_toArray, List.set_cons_zero, List.set_cons_succ]
  refine wpAnyG_done (by kernel_rfl) ?_ _
  clear hHeld
  go_wp2_with fail
  refine wp_region_G (C := fun W => W.cell? ⟨w.heap.size, 0, none⟩ = some (.pointer none) ∧ W.cell? ⟨w.heap.size, 1, none⟩ = some (.pointer (some ⟨br, 0, none⟩))) (s0 := 4) (by kernel_rfl) ?_
  have HA := Lib.hid HA.out.drew
  generalize wq.drew = wd at *
  have hHeld : (wd.cell? ⟨w.heap.size, 0, none⟩ = some (.pointer none) ∧ wd.cell? ⟨w.heap.size, 1, none⟩ = some (.pointer (some ⟨br, 0, none⟩))) := ⟨cell_of_row _ _ 0 _ _ _ HA.out.rr, cell_of_row _ _ 1 _ _ _ HA.out.rr⟩
  refine wpAnyG_takeM (i := 0) (oi := { dst := some 39, op := Op.load 109 (Operand.tmp 2), type := 109, pos := "ticket.go:178", after := #[], guard := none }) (v := ?_) (ms := [4]) rfl (by kernel_rfl) (by kernel_rfl) (by kernel_rfl) (by kernel_rfl) (by kernel_rfl) (fun _ _ _ h => h) (Or.inl ⟨by rfl, ?_⟩) (by assumption) ?_
  rotate_left
  · intro w hSw; (try dsimp only at hSw); go_simp; try with_reducible rfl
  try simp only [Act.put, List.setIfInBounds_toArray, List.set_cons_zero, List.set_cons_succ]
  refine wpAnyG_takeU (i := 1) (oi := { dst := some 40, op := Op.move (Operand.tmp 1), type := 111, pos := "ticket.go:178", after := #[], guard := none }) (v := ?_) rfl (by kernel_rfl) (by kernel_rfl) (by kernel_rfl) (by decide) (fun _ _ _ h => h) (Or.inl ⟨by rfl, ?_⟩) (by first | exact .inl (by assumption) | exact .inr rfl) ?_
  rotate_left
  · intro w hSw; go_simp; try with_reducible rfl
  try simp only [Act.put, List.setIfInBounds_toArray, List.set_cons_zero, List.set_cons_succ]
  refine wpAnyG_takeU (i := 2) (oi := { dst := some 41, op := Op.nilCheck (Operand.tmp 40), type := 0, pos := "ticket.go:178", after := #[{ on := 1, ground := Ground.data }], guard := none }) (v := ?_) rfl (by kernel_rfl) (by kernel_rfl) (by kernel_rfl) (by decide) (fun _ _ _ h => h) (Or.inl ⟨by rfl, ?_⟩) (by first | exact .inl (by assumption) | exact .inr rfl) ?_
  rotate_left
  · intro w hSw; go_simp; try with_reducible rfl
  try simp only [Act.put, List.setIfInBounds_toArray, List.set_cons_zero, List.set_cons_succ]
  refine wpAnyG_takeU (i := 3) (oi := { dst := some 42, op := Op.fieldAddr 27 (Operand.tmp 41) 8, type := 0, pos := "ticket.go:178", after := #[{ on := 2, ground := Ground.data }], guard := none }) (v := ?_) rfl (by kernel_rfl) (by kernel_rfl) (by kernel_rfl) (by decide) (fun _ _ _ h => h) (Or.inl ⟨by rfl, ?_⟩) (by first | exact .inl (by assumption) | exact .inr rfl) ?_
  rotate_left
  · intro w hSw; go_simp; try with_reducible rfl
  try simp only [Act.put, List.setIfInBounds_toArray, List.set_cons_zero, List.set_cons_succ]
  refine wpAnyG_one (i := 4) (o := { dst := some 43, op := Op.call { callee := Callee.value (Operand.func 129), args := #[Operand.tmp 39, Operand.tmp 42], argTypes := #[109, 160] }, type := 0, pos := "ticket.go:178", after := #[{ on := 0, ground := Ground.data }, { on := 3, ground := Ground.data }], guard := none }) (by kernel_rfl) rfl (fun K hK => ?_)
  go_simp
  go_at_call 129
  refine (gmoney_any base br _ _ HA.out.i g (8) _ _ HA.out.rg (by decide) HA.out.gb _ rfl).mono ?_
  rintro e wq ⟨rfl, hs⟩
  have HA : Hid (RAt w0 wq base br w.heap.size g (Tkt.q7 st) #[.int .u64 (rNumV st 8 : Int), .string ⟨(rBy (Tkt.q1 st) 6).toArray⟩, .int .i64 (rNumV (Tkt.q2 st) 4 : Int), .slice none 0 0, .slice none 0 0, .int .u64 (rNumV (Tkt.q3 st) 8 : Int), .int .u64 (rNumV (Tkt.q4 st) 8 : Int), .int .u64 (rNumV (Tkt.q5 st) 8 : Int), .int .i64 (IntKind.i64.wrap (rNumV (Tkt.q6 st) 8 : Int)), .int .i64 0, .slice none 0 0]) := Lib.hid (HA.out.step hs)
  clear hs
  refine hK.out _ _ (.inr rfl) ?_
  clear hK K
  try simp only [Act.put, List.setIfInBounds_toArray, List.set_cons_zero, List.set_cons_succ]
  refine wpAnyG_done (by kernel_rfl) ?_ _
  clear hHeld
  go_wp2_with fail
  refine wp_region_G (C := fun W => W.cell? ⟨w.heap.size, 0, none⟩ = some (.pointer none) ∧ W.cell? ⟨w.heap.size, 1, none⟩ = some (.pointer (some ⟨br, 0, none⟩)) ∧ W.cell? ⟨g, 3, none⟩ = some (.slice none 0 0)) (s0 := 9) (by kernel_rfl) ?_
  have HA := Lib.hid HA.out.drew
  generalize wq.drew = wd at *
  have hHeld : (wd.cell? ⟨w.heap.size, 0, none⟩ = some (.pointer none) ∧ wd.cell? ⟨w.heap.size, 1, none⟩ = some (.pointer (some ⟨br, 0, none⟩)) ∧ wd.cell? ⟨g, 3, none⟩ = some (.slice none 0 0)) := ⟨cell_of_row _ _ 0 _ _ _ HA.out.rr, cell_of_row _ _ 1 _ _ _ HA.out.rr, cell_of_row _ _ 3 _ _ _ HA.out.rg⟩
  refine wpAnyG_takeU (i := 0) (oi := { dst := some 44, op := Op.move (Operand.tmp 1), type := 111, pos := "ticket.go:179", after := #[], guard := none }) (v := ?_) rfl (by kernel_rfl) (by kernel_rfl) (by kernel_rfl) (by decide) (fun _ _ _ h => h) (Or.inl ⟨by rfl, ?_⟩) (by first | exact .inl (by assumption) | exact .inr rfl) ?_
  rotate_left
  · intro w hSw; go_simp; try with_reducible rfl
  try simp only [Act.put, List.setIfInBounds_toArray, List.set_cons_zero, List.set_cons_succ]
  refine wpAnyG_takeM (i := 1) (oi := { dst := some 45, op := Op.load 109 (Operand.tmp 2), type := 109, pos := "ticket.go:179", after := #[], guard := none }) (v := ?_) (ms := [6, 7, 8, 9]) rfl (by kernel_rfl) (by kernel_rfl) (by kernel_rfl) (by kernel_rfl) (by kernel_rfl) (fun _ _ _ h => h) (Or.inl ⟨by rfl, ?_⟩) (by assumption) ?_
  rotate_left
  · intro w hSw; (try dsimp only at hSw); go_simp; try with_reducible rfl
  try simp only [Act.put, List.setIfInBounds_toArray, List.set_cons_zero, List.set_cons_succ]
  refine wpAnyG_takeU (i := 2) (oi := { dst := some 46, op := Op.move (Operand.tmp 1), type := 111, pos := "ticket.go:179", after := #[], guard := none }) (v := ?_) rfl (by kernel_rfl) (by kernel_rfl) (by kernel_rfl) (by decide) (fun _ _ _ h => h) (Or.inl ⟨by rfl, ?_⟩) (by first | exact .inl (by assumption) | exact .inr rfl) ?_
  rotate_left
  · intro w hSw; go_simp; try with_reducible rfl
  try simp only [Act.put, List.setIfInBounds_toArray, List.set_cons_zero, List.set_cons_succ]
  refine wpAnyG_takeU (i := 3) (oi := { dst := some 47, op := Op.nilCheck (Operand.tmp 46), type := 0, pos := "ticket.go:179", after := #[{ on := 2, ground := Ground.data }], guard := none }) (v := ?_) rfl (by kernel_rfl) (by kernel_rfl) (by kernel_rfl) (by decide) (fun _ _ _ h => h) (Or.inl ⟨by rfl, ?_⟩) (by first | exact .inl (by assumption) | exact .inr rfl) ?_
  rotate_left
  · intro w hSw; go_simp; try with_reducible rfl
  try simp only [Act.put, List.setIfInBounds_toArray, List.set_cons_zero, List.set_cons_succ]
  refine wpAnyG_takeU (i := 4) (oi := { dst := some 48, op := Op.fieldAddr 27 (Operand.tmp 47) 3, type := 0, pos := "ticket.go:179", after := #[{ on := 3, ground := Ground.data }], guard := none }) (v := ?_) rfl (by kernel_rfl) (by kernel_rfl) (by kernel_rfl) (by decide) (fun _ _ _ h => h) (Or.inl ⟨by rfl, ?_⟩) (by first | exact .inl (by assumption) | exact .inr rfl) ?_
  rotate_left
  · intro w hSw; go_simp; try with_reducible rfl
  try simp only [Act.put, List.setIfInBounds_toArray, List.set_cons_zero, List.set_cons_succ]
  refine wpAnyG_takeM (i := 5) (oi := { dst := some 49, op := Op.load 23 (Operand.tmp 48), type := 23, pos := "ticket.go:179", after := #[{ on := 4, ground := Ground.data }], guard := none }) (v := ?_) (ms := [6, 7, 8, 9]) rfl (by kernel_rfl) (by kernel_rfl) (by kernel_rfl) (by kernel_rfl) (by kernel_rfl) (fun _ _ _ h => h) (Or.inl ⟨by rfl, ?_⟩) (by assumption) ?_
  rotate_left
  · intro w hSw; (try dsimp only at hSw); go_simp; try with_reducible rfl
  try simp only [Act.put, List.setIfInBounds_toArray, List.set_cons_zero, List.set_cons_succ]
  refine wpAnyG_one (i := 6) (o := { dst := some 50, op := Op.call { callee := Callee.value (Operand.func 130), args := #[Operand.tmp 45, Operand.tmp 49], argTypes := #[109, 23] }, type := 23, pos := "ticket.go:179", after := #[{ on := 1, ground := Ground.data }, { on := 5, ground := Ground.data }], guard := none }) (by kernel_rfl) rfl (fun K hK => ?_)
  go_simp
  go_at_call 130
  refine (glistCp_any base br _ _ HA.out.i).mono ?_
  rintro e wq ⟨gc, rfl, hgl, hrl, hi, hbl, hk⟩
  have HA0 := HA
  have HA : Hid (RAt w0 wq base br w.heap.size g (Tkt.q8 st) #[.int .u64 (rNumV st 8 : Int), .string ⟨(rBy (Tkt.q1 st) 6).toArray⟩, .int .i64 (rNumV (Tkt.q2 st) 4 : Int), .slice none 0 0, .slice none 0 0, .int .u64 (rNumV (Tkt.q3 st) 8 : Int), .int .u64 (rNumV (Tkt.q4 st) 8 : Int), .int .u64 (rNumV (Tkt.q5 st) 8 : Int), .int .i64 (IntKind.i64.wrap (rNumV (Tkt.q6 st) 8 : Int)), .int .i64 0, .slice none 0 0]) := Lib.hid (HA.out.keep hi hbl hk)
  have Hgc := Lib.hid hrl
  have HGL0 := Lib.hid hgl
  have HgcN : Hid (gc ≠ g) := Lib.hid (row_neT hrl HA.out.rg (by decide))
  have HgcR : Hid (gc ≠ w.heap.size) := Lib.hid (row_neT hrl HA.out.rr (by decide))
  have HgcB : Hid (base ≤ gc) := Lib.hid (Nat.le_trans (Nat.le_trans HA0.out.i.lt.1 (Nat.le_of_lt HA0.out.i.lt.2)) hgl)
  have HgcA : Hid (w0.heap.size ≤ gc) := Lib.hid (Nat.le_trans HA0.out.k.size hgl)
  clear hi hbl hk hrl hgl HGL0
  refine hK.out _ _ (.inl ⟨cell_of_row _ _ 0 _ _ _ HA.out.rr, cell_of_row _ _ 1 _ _ _ HA.out.rr, cell_of_row _ _ 3 _ _ _ HA.out.rg⟩) ?_
  clear hK K
  try simp only [Act.put, List.setIfInBounds_toArray, List.set_cons_zero, List.set_cons_succ]
  have hHeld : (wq.cell? ⟨w.heap.size, 0, none⟩ = some (.pointer none) ∧ wq.cell? ⟨w.heap.size, 1, none⟩ = some (.pointer (some ⟨br, 0, none⟩)) ∧ wq.cell? ⟨g, 3, none⟩ = some (.slice none 0 0)) := ⟨cell_of_row _ _ 0 _ _ _ HA.out.rr, cell_of_row _ _ 1 _ _ _ HA.out.rr, cell_of_row _ _ 3 _ _ _ HA.out.rg⟩
  refine wpAnyG_takeU (i := 7) (oi := { dst := some 51, op := Op.nilCheck (Operand.tmp 44), type := 0, pos := "ticket.go:179", after := #[{ on := 0, ground := Ground.data }, { on := 0, ground := Ground.phase }, { on := 1, ground := Ground.phase }, { on := 2, ground := Ground.phase }, { on := 3, ground := Ground.phase }, { on := 4, ground := Ground.phase }, { on := 5, ground := Ground.phase }, { on := 6, ground := Ground.phase }], guard := none }) (v := ?_) rfl (by kernel_rfl) (by kernel_rfl) (by kernel_rfl) (by decide) (fun _ _ _ h => h) (Or.inl ⟨by rfl, ?_⟩) (by first | exact .inl (by assumption) | exact .inr rfl) ?_
  rotate_left
  · intro w hSw; go_simp; try with_reducible rfl
  try simp only [Act.put, List.setIfInBounds_toArray, List.set_cons_zero, List.set_cons_succ]
  refine wpAnyG_takeU (i := 8) (oi := { dst := some 52, op := Op.fieldAddr 27 (Operand.tmp 51) 3, type := 0, pos := "ticket.go:179", after := #[{ on := 7, ground := Ground.data }, { on := 0, ground := Ground.phase }, { on := 1, ground := Ground.phase }, { on := 2, ground := Ground.phase }, { on := 3, ground := Ground.phase }, { on := 4, ground := Ground.phase }, { on := 5, ground := Ground.phase }, { on := 6, ground := Ground.phase }], guard := none }) (v := ?_) rfl (by kernel_rfl) (by kernel_rfl) (by kernel_rfl) (by decide) (fun _ _ _ h => h) (Or.inl ⟨by rfl, ?_⟩) (by first | exact .inl (by assumption) | exact .inr rfl) ?_
  rotate_left
  · intro w hSw; go_simp; try with_reducible rfl
  try simp only [Act.put, List.setIfInBounds_toArray, List.set_cons_zero, List.set_cons_succ]
  refine wpAnyG_one (i := 9) (o := { dst := none, op := Op.store 23 (Operand.tmp 52) (Operand.tmp 50), type := 0, pos := "ticket.go:179", after := #[{ on := 8, ground := Ground.data }, { on := 6, ground := Ground.data }, { on := 6, ground := Ground.chain }, { on := 0, ground := Ground.phase }, { on := 1, ground := Ground.phase }, { on := 2, ground := Ground.phase }, { on := 3, ground := Ground.phase }, { on := 4, ground := Ground.phase }, { on := 5, ground := Ground.phase }, { on := 6, ground := Ground.phase }], guard := none }) (by kernel_rfl) rfl (fun K hK => ?_)
  have kc := fun j => cell_of_row wq g j _ _ _ HA.out.rg
  have kf := fun j => frozen_of_row wq g j _ _ HA.out.rg
  go_simp
  refine hK.out _ _ (.inr rfl) ?_
  clear hK K
  try simp only [Act.put, List.setIfInBounds_toArray, List.set_cons_zero, List.set_cons_succ]
  refine wpAnyG_done (by kernel_rfl) ?_ _
  have HA : Hid (RAt w0 (wq.setCell ⟨g, 3, none⟩ (.slice (some ⟨gc, 0, none⟩) ((rNumV (Tkt.q7 st) 1)) ((rNumV (Tkt.q7 st) 1)))) base br w.heap.size g (Tkt.q8 st) #[.int .u64 (rNumV st 8 : Int), .string ⟨(rBy (Tkt.q1 st) 6).toArray⟩, .int .i64 (rNumV (Tkt.q2 st) 4 : Int), .slice (some ⟨gc, 0, none⟩) ((rNumV (Tkt.q7 st) 1)) ((rNumV (Tkt.q7 st) 1)), .slice none 0 0, .int .u64 (rNumV (Tkt.q3 st) 8 : Int), .int .u64 (rNumV (Tkt.q4 st) 8 : Int), .int .u64 (rNumV (Tkt.q5 st) 8 : Int), .int .i64 (IntKind.i64.wrap (rNumV (Tkt.q6 st) 8 : Int)), .int .i64 0, .slice none 0 0]) := Lib.hid (HA.out.set 3 _)
  have Hgc := Lib.hid (row_set Hgc.out HgcN.out 3 (.slice (some ⟨gc, 0, none⟩) ((rNumV (Tkt.q7 st) 1)) ((rNumV (Tkt.q7 st) 1))))
  clear hHeld kc kf HA0
  generalize wq.setCell ⟨g, 3, none⟩ (.slice (some ⟨gc, 0, none⟩) ((rNumV (Tkt.q7 st) 1)) ((rNumV (Tkt.q7 st) 1))) = wq2 at *
  have Hgc : Hid (wq2.heap[gc]? = some (.cells (rowJ Cpn.cells ⟨0, 0, 0, 0, 0, 0⟩ ((rNumV (Tkt.q7 st) 1)) Tkt.gC Tkt.gCs (Tkt.q8 st) 0) 44 (0, 0))) := Lib.hid (by rw [rowJ_zero]; exact Hgc.out)
  have hNb : (rNumV (Tkt.q7 st) 1) < 256 := rNumV_lt _ 1
  have HNB := Lib.hid hNb
  have hcg := fun j => cell_of_row wq2 g j _ _ _ HA.out.rg
  go_wp2_with fail
  clear hcg hNb
  go_loopw [58] (fun i wr => ∃ j : Nat, j ≤ (rNumV (Tkt.q7 st) 1) ∧ i = .int .i64 j ∧ RAt w0 wr base br w.heap.size g (Tkt.itS Tkt.gCs j (Tkt.q8 st)) #[.int .u64 (rNumV st 8 : Int), .string ⟨(rBy (Tkt.q1 st) 6).toArray⟩, .int .i64 (rNumV (Tkt.q2 st) 4 : Int), .slice (some ⟨gc, 0, none⟩) ((rNumV (Tkt.q7 st) 1)) ((rNumV (Tkt.q7 st) 1)), .slice none 0 0, .int .u64 (rNumV (Tkt.q3 st) 8 : Int), .int .u64 (rNumV (Tkt.q4 st) 8 : Int), .int .u64 (rNumV (Tkt.q5 st) 8 : Int), .int .i64 (IntKind.i64.wrap (rNumV (Tkt.q6 st) 8 : Int)), .int .i64 0, .slice none 0 0] ∧ wr.heap[gc]? = some (.cells (rowJ Cpn.cells ⟨0, 0, 0, 0, 0, 0⟩ ((rNumV (Tkt.q7 st) 1)) Tkt.gC Tkt.gCs (Tkt.q8 st) j) 44 (0, 0))) (fun i _ => (rNumV (Tkt.q7 st) 1) - (intOf i).toNat)
  case atStart => exact ⟨0, Nat.zero_le _, rfl, HA.out, Hgc.out⟩
  case round =>
    obtain ⟨j, hj, rfl, hrel, hr0⟩ := hrel
    have hNb := HNB.out
    have HA := Lib.hid hrel
    have Hgc := Lib.hid hr0
    clear hrel hr0
    by_cases hlt : j < (rNumV (Tkt.q7 st) 1)
    · have HLT := Lib.hid hlt
      obtain ⟨pre, hpre⟩ : ∃ p, encL Cpn.cells (Tkt.itL Tkt.gC Tkt.gCs j (Tkt.q8 st)) = p := ⟨_, rfl⟩
      obtain ⟨post, hpost⟩ : ∃ p, encL Cpn.cells (List.replicate ((rNumV (Tkt.q7 st) 1) - j - 1) ⟨0, 0, 0, 0, 0, 0⟩) = p := ⟨_, rfl⟩
      have hpl : pre.length = j * 6 := by rw [← hpre, encL_length Cpn.cells_length, Tkt.itL_length]
      have HCB : Hid (wr.heap[gc]? = some (.cells (mid pre [.int .i64 0, .int .i64 0, .int .i64 0, .int .i64 0, .int .i64 0, .int .u64 0] post) 44 (0, 0))) := Lib.hid (by have := Hgc.out; rw [rowJ_mid hlt, hpre, hpost] at this; exact this)
      have HNX : Hid (rowJ Cpn.cells ⟨0, 0, 0, 0, 0, 0⟩ ((rNumV (Tkt.q7 st) 1)) Tkt.gC Tkt.gCs (Tkt.q8 st) (j + 1) = mid pre (Tkt.gC (Tkt.itS Tkt.gCs j (Tkt.q8 st))).cells post) := Lib.hid (by rw [rowJ_next hlt, hpre, hpost])
      have HPL := Lib.hid hpl
      obtain ⟨sj, hsj⟩ : ∃ s, Tkt.itS Tkt.gCs j (Tkt.q8 st) = s := ⟨_, rfl⟩
      rw [hsj] at HA HNX
      have HSJ := Lib.hid hsj
      clear hpre hpost hpl hsj
      have hcg := fun j => cell_of_row wr g j _ _ _ HA.out.rg
      go_wp2_with fail
      clear hcg
      refine wp_region_G (C := fun W => W.cell? ⟨w.heap.size, 0, none⟩ = some (.pointer none) ∧ W.cell? ⟨w.heap.size, 1, none⟩ = some (.pointer (some ⟨br, 0, none⟩))) (s0 := 4) (by kernel_rfl) ?_
      have HA := Lib.hid HA.out.drew
      have HCB := Lib.hid (row_drewT HCB.out)
      generalize wr.drew = wd at *
      have hHeld : (wd.cell? ⟨w.heap.size, 0, none⟩ = some (.pointer none) ∧ wd.cell? ⟨w.heap.size, 1, none⟩ = some (.pointer (some ⟨br, 0, none⟩))) := ⟨cell_of_row _ _ 0 _ _ _ HA.out.rr, cell_of_row _ _ 1 _ _ _ HA.out.rr⟩
      refine wpAnyG_takeM (i := 0) (oi := { dst := some 67, op := Op.load 109 (Operand.tmp 2), type := 109, pos := "ticket.go:182", after := #[], guard := none }) (v := ?_) (ms := [4]) rfl (by kernel_rfl) (by kernel_rfl) (by kernel_rfl) (by kernel_rfl) (by kernel_rfl) (fun _ _ _ h => h) (Or.inl ⟨by rfl, ?_⟩) (by assumption) ?_
      rotate_left
      · intro w hSw; (try dsimp only at hSw); go_simp; try with_reducible rfl
      try simp only [Act.put, List.setIfInBounds_toArray, List.set_cons_zero, List.set_cons_succ]
      refine wpAnyG_takeU (i := 1) (oi := { dst := some 68, op := Op.move (Operand.tmp 5), type := 89, pos := "ticket.go:182", after := #[], guard := none }) (v := ?_) rfl (by kernel_rfl) (by kernel_rfl) (by kernel_rfl) (by decide) (fun _ _ _ h => h) (Or.inl ⟨by rfl, ?_⟩) (by first | exact .inl (by assumption) | exact .inr rfl) ?_
      rotate_left
      · intro w hSw; go_simp; try with_reducible rfl
      try simp only [Act.put, List.setIfInBounds_toArray, List.set_cons_zero, List.set_cons_succ]
      refine wpAnyG_takeU (i := 2) (oi := { dst := some 69, op := Op.nilCheck (Operand.tmp 68), type := 0, pos := "ticket.go:182", after := #[{ on := 1, ground := Ground.data }], guard := none }) (v := ?_) rfl (by kernel_rfl) (by kernel_rfl) (by kernel_rfl) (by decide) (fun _ _ _ h => h) (Or.inl ⟨by rfl, ?_⟩) (by first | exact .inl (by assumption) | exact .inr rfl) ?_
      rotate_left
      · intro w hSw; go_simp; try with_reducible rfl
      try simp only [Act.put, List.setIfInBounds_toArray, List.set_cons_zero, List.set_cons_succ]
      refine wpAnyG_takeU (i := 3) (oi := { dst := some 70, op := Op.fieldAddr 44 (Operand.tmp 69) 0, type := 0, pos := "ticket.go:182", after := #[{ on := 2, ground := Ground.data }], guard := none }) (v := ?_) rfl (by kernel_rfl) (by kernel_rfl) (by kernel_rfl) (by decide) (fun _ _ _ h => h) (Or.inl ⟨by rfl, ?_⟩) (by first | exact .inl (by assumption) | exact .inr rfl) ?_
      rotate_left
      · intro w hSw; go_simp; try with_reducible rfl
      try simp only [Act.put, List.setIfInBounds_toArray, List.set_cons_zero, List.set_cons_succ]
      refine wpAnyG_one (i := 4) (o := { dst := some 71, op := Op.call { callee := Callee.value (Operand.func 128), args := #[Operand.tmp 67, Operand.tmp 70, Operand.const (Value.int IntKind.i64 2)], argTypes := #[109, 158, 3] }, type := 0, pos := "ticket.go:182", after := #[{ on := 0, ground := Ground.data }, { on := 3, ground := Ground.data }], guard := none }) (by kernel_rfl) rfl (fun K hK => ?_)
      go_simp
      go_at_call 128
      refine (gwhole_any base br _ 2 (by decide) _ HA.out.i gc (j * 6) _ _ HCB.out (by decide) HgcB.out _ (mid_at HPL.out 0 rfl)).mono ?_
      rintro e wq ⟨rfl, hs⟩
      have HA : Hid (RAt w0 wq base br w.heap.size g (Tkt.cc1 sj) #[.int .u64 (rNumV st 8 : Int), .string ⟨(rBy (Tkt.q1 st) 6).toArray⟩, .int .i64 (rNumV (Tkt.q2 st) 4 : Int), .slice (some ⟨gc, 0, none⟩) ((rNumV (Tkt.q7 st) 1)) ((rNumV (Tkt.q7 st) 1)), .slice none 0 0, .int .u64 (rNumV (Tkt.q3 st) 8 : Int), .int .u64 (rNumV (Tkt.q4 st) 8 : Int), .int .u64 (rNumV (Tkt.q5 st) 8 : Int), .int .i64 (IntKind.i64.wrap (rNumV (Tkt.q6 st) 8 : Int)), .int .i64 0, .slice none 0 0]) := Lib.hid (HA.out.step2 hs HgcR.out HgcN.out HgcA.out)
      have HCB : Hid (wq.heap[gc]? = some (.cells (mid pre [.int .i64 (rNumV sj 2 : Int), .int .i64 0, .int .i64 0, .int .i64 0, .int .i64 0, .int .u64 0] post) 44 (0, 0))) := Lib.hid (by have := hs.r; first | exact (mid_set_eq HPL.out 0 rfl rfl this))
      clear hs
      refine hK.out _ _ (.inr rfl) ?_
      clear hK K
      try simp only [Act.put, List.setIfInBounds_toArray, List.set_cons_zero, List.set_cons_succ]
      refine wpAnyG_done (by kernel_rfl) ?_ _
      clear hHeld
      go_wp2_with fail
      refine wp_region_G (C := fun W => W.cell? ⟨w.heap.size, 0, none⟩ = some (.pointer none) ∧ W.cell? ⟨w.heap.size, 1, none⟩ = some (.pointer (some ⟨br, 0, none⟩))) (s0 := 4) (by kernel_rfl) ?_
      have HA := Lib.hid HA.out.drew
      have HCB := Lib.hid (row_drewT HCB.out)
      generalize wq.drew = wd at *
      have hHeld : (wd.cell? ⟨w.heap.size, 0, none⟩ = some (.pointer none) ∧ wd.cell? ⟨w.heap.size, 1, none⟩ = some (.pointer (some ⟨br, 0, none⟩))) := ⟨cell_of_row _ _ 0 _ _ _ HA.out.rr, cell_of_row _ _ 1 _ _ _ HA.out.rr⟩
      refine wpAnyG_takeM (i := 0) (oi := { dst := some 72, op := Op.load 109 (Operand.tmp 2), type := 109, pos := "ticket.go:183", after := #[], guard := none }) (v := ?_) (ms := [4]) rfl (by kernel_rfl) (by kernel_rfl) (by kernel_rfl) (by kernel_rfl) (by kernel_rfl) (fun _ _ _ h => h) (Or.inl ⟨by rfl, ?_⟩) (by assumption) ?_
      rotate_left
      · intro w hSw; (try dsimp only at hSw); go_simp; try with_reducible rfl
      try simp only [Act.put, List.setIfInBounds_toArray, List.set_cons_zero, List.set_cons_succ]
      refine wpAnyG_takeU (i := 1) (oi := { dst := some 73, op := Op.move (Operand.tmp 5), type := 89, pos := "ticket.go:183", after := #[], guard := none }) (v := ?_) rfl (by kernel_rfl) (by kernel_rfl) (by kernel_rfl) (by decide) (fun _ _ _ h => h) (Or.inl ⟨by rfl, ?_⟩) (by first | exact .inl (by assumption) | exact .inr rfl) ?_
      rotate_left
      · intro w hSw; go_simp; try with_reducible rfl
      try simp only [Act.put, List.setIfInBounds_toArray, List.set_cons_zero, List.set_cons_succ]
      refine wpAnyG_takeU (i := 2) (oi := { dst := some 74, op := Op.nilCheck (Operand.tmp 73), type := 0, pos := "ticket.go:183", after := #[{ on := 1, ground := Ground.data }], guard := none }) (v := ?_) rfl (by kernel_rfl) (by kernel_rfl) (by kernel_rfl) (by decide) (fun _ _ _ h => h) (Or.inl ⟨by rfl, ?_⟩) (by first | exact .inl (by assumption) | exact .inr rfl) ?_
      rotate_left
      · intro w hSw; go_simp; try with_reducible rfl
      try simp only [Act.put, List.setIfInBounds_toArray, List.set_cons_zero, List.set_cons_succ]
      refine wpAnyG_takeU (i := 3) (oi := { dst := some 75, op := Op.fieldAddr 44 (Operand.tmp 74) 1, type := 0, pos := "ticket.go:183", after := #[{ on := 2, ground := Ground.data }], guard := none }) (v := ?_) rfl (by kernel_rfl) (by kernel_rfl) (by kernel_rfl) (by decide) (fun _ _ _ h => h) (Or.inl ⟨by rfl, ?_⟩) (by first | exact .inl (by assumption) | exact .inr rfl) ?_
      rotate_left
      · intro w hSw; go_simp; try with_reducible rfl
      try simp only [Act.put, List.setIfInBounds_toArray, List.set_cons_zero, List.set_cons_succ]
      refine wpAnyG_one (i := 4) (o := { dst := some 76, op := Op.call { callee := Callee.value (Operand.func 128), args := #[Operand.tmp 72, Operand.tmp 75, Operand.const (Value.int IntKind.i64 4)], argTypes := #[109, 158, 3] }, type := 0, pos := "ticket.go:183", after := #[{ on := 0, ground := Ground.data }, { on := 3, ground := Ground.data }], guard := none }) (by kernel_rfl) rfl (fun K hK => ?_)
      go_simp
      go_at_call 128
      refine (gwhole_any base br _ 4 (by decide) _ HA.out.i gc (j * 6 + 1) _ _ HCB.out (by decide) HgcB.out _ (mid_at HPL.out 1 rfl)).mono ?_
      rintro e wq ⟨rfl, hs⟩
      have HA : Hid (RAt w0 wq base br w.heap.size g (Tkt.cc2 sj) #[.int .u64 (rNumV st 8 : Int), .string ⟨(rBy (Tkt.q1 st) 6).toArray⟩, .int .i64 (rNumV (Tkt.q2 st) 4 : Int), .slice (some ⟨gc, 0, none⟩) ((rNumV (Tkt.q7 st) 1)) ((rNumV (Tkt.q7 st) 1)), .slice none 0 0, .int .u64 (rNumV (Tkt.q3 st) 8 : Int), .int .u64 (rNumV (Tkt.q4 st) 8 : Int), .int .u64 (rNumV (Tkt.q5 st) 8 : Int), .int .i64 (IntKind.i64.wrap (rNumV (Tkt.q6 st) 8 : Int)), .int .i64 0, .slice none 0 0]) := Lib.hid (HA.out.step2 hs HgcR.out HgcN.out HgcA.out)
      have HCB : Hid (wq.heap[gc]? = some (.cells (mid pre [.int .i64 (rNumV sj 2 : Int), .int .i64 (rNumV (Tkt.cc1 sj) 4 : Int), .int .i64 0, .int .i64 0, .int .i64 0, .int .u64 0] post) 44 (0, 0))) := Lib.hid (by have := hs.r; first | exact (mid_set_eq HPL.out 1 rfl rfl this))
      clear hs
      refine hK.out _ _ (.inr rfl) ?_
      clear hK K
      try simp only [Act.put, List.setIfInBounds_toArray, List.set_cons_zero, List.set_cons_succ]
      refine wpAnyG_done (by kernel_rfl) ?_ _
      clear hHeld
      go_wp2_with fail
      refine wp_region_G (C := fun W => W.cell? ⟨w.heap.size, 0, none⟩ = some (.pointer none) ∧ W.cell? ⟨w.heap.size, 1, none⟩ = some (.pointer (some ⟨br, 0, none⟩))) (s0 := 4) (by kernel_rfl) ?_
      have HA := Lib.hid HA.out.drew
      have HCB := Lib.hid (row_drewT HCB.out)
      generalize wq.drew = wd at *
      have hHeld : (wd.cell? ⟨w.heap.size, 0, none⟩ = some (.pointer none) ∧ wd.cell? ⟨w.heap.size, 1, none⟩ = some (.pointer (some ⟨br, 0, none⟩))) := ⟨cell_of_row _ _ 0 _ _ _ HA.out.rr, cell_of_row _ _ 1 _ _ _ HA.out.rr⟩
      refine wpAnyG_takeM (i := 0) (oi := { dst := some 77, op := Op.load 109 (Operand.tmp 2), type := 109, pos := "ticket.go:184", after := #[], guard := none }) (v := ?_) (ms := [4]) rfl (by kernel_rfl) (by kernel_rfl) (by kernel_rfl) (by kernel_rfl) (by kernel_rfl) (fun _ _ _ h => h) (Or.inl ⟨by rfl, ?_⟩) (by assumption) ?_
      rotate_left
      · intro w hSw; (try dsimp only at hSw); go_simp; try with_reducible rfl
      try simp only [Act.put, List.setIfInBounds_toArray, List.set_cons_zero, List.set_cons_succ]
      refine wpAnyG_takeU (i := 1) (oi := { dst := some 78, op := Op.move (Operand.tmp 5), type := 89, pos := "ticket.go:184", after := #[], guard := none }) (v := ?_) rfl (by kernel_rfl) (by kernel_rfl) (by kernel_rfl) (by decide) (fun _ _ _ h => h) (Or.inl ⟨by rfl, ?_⟩) (by first | exact .inl (by assumption) | exact .inr rfl) ?_
      rotate_left
      · intro w hSw; go_simp; try with_reducible rfl
      try simp only [Act.put, List.setIfInBounds_toArray, List.set_cons_zero, List.set_cons_succ]
      refine wpAnyG_takeU (i := 2) (oi := { dst := some 79, op := Op.nilCheck (Operand.tmp 78), type := 0, pos := "ticket.go:184", after := #[{ on := 1, ground := Ground.data }], guard := none }) (v := ?_) rfl (by kernel_rfl) (by kernel_rfl) (by kernel_rfl) (by decide) (fun _ _ _ h => h) (Or.inl ⟨by rfl, ?_⟩) (by first | exact .inl (by assumption) | exact .inr rfl) ?_
      rotate_left
      · intro w hSw; go_simp; try with_reducible rfl
      try simp only [Act.put, List.setIfInBounds_toArray, List.set_cons_zero, List.set_cons_succ]
      refine wpAnyG_takeU (i := 3) (oi := { dst := some 80, op := Op.fieldAddr 44 (Operand.tmp 79) 2, type := 0, pos := "ticket.go:184", after := #[{ on := 2, ground := Ground.data }], guard := none }) (v := ?_) rfl (by kernel_rfl) (by kernel_rfl) (by kernel_rfl) (by decide) (fun _ _ _ h => h) (Or.inl ⟨by rfl, ?_⟩) (by first | exact .inl (by assumption) | exact .inr rfl) ?_
      rotate_left
      · intro w hSw; go_simp; try with_reducible rfl
      try simp only [Act.put, List.setIfInBounds_toArray, List.set_cons_zero, List.set_cons_succ]
      refine wpAnyG_one (i := 4) (o := { dst := some 81, op := Op.call { callee := Callee.value (Operand.func 129), args := #[Operand.tmp 77, Operand.tmp 80], argTypes := #[109, 160] }, type := 0, pos := "ticket.go:184", after := #[{ on := 0, ground := Ground.data }, { on := 3, ground := Ground.data }], guard := none }) (by kernel_rfl) rfl (fun K hK => ?_)
      go_simp
      go_at_call 129
      refine (gmoney_any base br _ _ HA.out.i gc (j * 6 + 2) _ _ HCB.out (by decide) HgcB.out _ (mid_at HPL.out 2 rfl)).mono ?_
      rintro e wq ⟨rfl, hs⟩
      have HA : Hid (RAt w0 wq base br w.heap.size g (Tkt.cc3 sj) #[.int .u64 (rNumV st 8 : Int), .string ⟨(rBy (Tkt.q1 st) 6).toArray⟩, .int .i64 (rNumV (Tkt.q2 st) 4 : Int), .slice (some ⟨gc, 0, none⟩) ((rNumV (Tkt.q7 st) 1)) ((rNumV (Tkt.q7 st) 1)), .slice none 0 0, .int .u64 (rNumV (Tkt.q3 st) 8 : Int), .int .u64 (rNumV (Tkt.q4 st) 8 : Int), .int .u64 (rNumV (Tkt.q5 st) 8 : Int), .int .i64 (IntKind.i64.wrap (rNumV (Tkt.q6 st) 8 : Int)), .int .i64 0, .slice none 0 0]) := Lib.hid (HA.out.step2 hs HgcR.out HgcN.out HgcA.out)
      have HCB : Hid (wq.heap[gc]? = some (.cells (mid pre [.int .i64 (rNumV sj 2 : Int), .int .i64 (rNumV (Tkt.cc1 sj) 4 : Int), .int .i64 (IntKind.i64.wrap (rNumV (Tkt.cc2 sj) 8 : Int)), .int .i64 0, .int .i64 0, .int .u64 0] post) 44 (0, 0))) := Lib.hid (by have := hs.r; first | exact (mid_set_eq HPL.out 2 rfl rfl this))
      clear hs
      refine hK.out _ _ (.inr rfl) ?_
      clear hK K
      try simp only [Act.put, List.setIfInBounds_toArray, List.set_cons_zero, List.set_cons_succ]
      refine wpAnyG_done (by kernel_rfl) ?_ _
      clear hHeld
      go_wp2_with fail
      refine wp_region_G (C := fun W => W.cell? ⟨w.heap.size, 0, none⟩ = some (.pointer none) ∧ W.cell? ⟨w.heap.size, 1, none⟩ = some (.pointer (some ⟨br, 0, none⟩))) (s0 := 4) (by kernel_rfl) ?_
      have HA := Lib.hid HA.out.drew
      have HCB := Lib.hid (row_drewT HCB.out)
      generalize wq.drew = wd at *
      have hHeld : (wd.cell? ⟨w.heap.size, 0, none⟩ = some (.pointer none) ∧ wd.cell? ⟨w.heap.size, 1, none⟩ = some (.pointer (some ⟨br, 0, none⟩))) := ⟨cell_of_row _ _ 0 _ _ _ HA.out.rr, cell_of_row _ _ 1 _ _ _ HA.out.rr⟩
      refine wpAnyG_takeM (i := 0) (oi := { dst := some 82, op := Op.load 109 (Operand.tmp 2), type := 109, pos := "ticket.go:185", after := #[], guard := none }) (v := ?_) (ms := [4]) rfl (by kernel_rfl) (by kernel_rfl) (by kernel_rfl) (by kernel_rfl) (by kernel_rfl) (fun _ _ _ h => h) (Or.inl ⟨by rfl, ?_⟩) (by assumption) ?_
      rotate_left
      · intro w hSw; (try dsimp only at hSw); go_simp; try with_reducible rfl
      try simp only [Act.put, List.setIfInBounds_toArray, List.set_cons_zero, List.set_cons_succ]
      refine wpAnyG_takeU (i := 1) (oi := { dst := some 83, op := Op.move (Operand.tmp 5), type := 89, pos := "ticket.go:185", after := #[], guard := none }) (v := ?_) rfl (by kernel_rfl) (by kernel_rfl) (by kernel_rfl) (by decide) (fun _ _ _ h => h) (Or.inl ⟨by rfl, ?_⟩) (by first | exact .inl (by assumption) | exact .inr rfl) ?_
      rotate_left
      · intro w hSw; go_simp; try with_reducible rfl
      try simp only [Act.put, List.setIfInBounds_toArray, List.set_cons_zero, List.set_cons_succ]
      refine wpAnyG_takeU (i := 2) (oi := { dst := some 84, op := Op.nilCheck (Operand.tmp 83), type := 0, pos := "ticket.go:185", after := #[{ on := 1, ground := Ground.data }], guard := none }) (v := ?_) rfl (by kernel_rfl) (by kernel_rfl) (by kernel_rfl) (by decide) (fun _ _ _ h => h) (Or.inl ⟨by rfl, ?_⟩) (by first | exact .inl (by assumption) | exact .inr rfl) ?_
      rotate_left
      · intro w hSw; go_simp; try with_reducible rfl
      try simp only [Act.put, List.setIfInBounds_toArray, List.set_cons_zero, List.set_cons_succ]
      refine wpAnyG_takeU (i := 3) (oi := { dst := some 85, op := Op.fieldAddr 44 (Operand.tmp 84) 3, type := 0, pos := "ticket.go:185", after := #[{ on := 2, ground := Ground.data }], guard := none }) (v := ?_) rfl (by kernel_rfl) (by kernel_rfl) (by kernel_rfl) (by decide) (fun _ _ _ h => h) (Or.inl ⟨by rfl, ?_⟩) (by first | exact .inl (by assumption) | exact .inr rfl) ?_
      rotate_left
      · intro w hSw; go_simp; try with_reducible rfl
      try simp only [Act.put, List.setIfInBounds_toArray, List.set_cons_zero, List.set_cons_succ]
      refine wpAnyG_one (i := 4) (o := { dst := some 86, op := Op.call { callee := Callee.value (Operand.func 131), args := #[Operand.tmp 82, Operand.tmp 85], argTypes := #[109, 163] }, type := 0, pos := "ticket.go:185", after := #[{ on := 0, ground := Ground.data }, { on := 3, ground := Ground.data }], guard := none }) (by kernel_rfl) rfl (fun K hK => ?_)
      go_simp
      go_at_call 131
      refine (gstatus_any base br _ _ HA.out.i gc (j * 6 + 3) _ _ HCB.out (by decide) HgcB.out _ (mid_at HPL.out 3 rfl)).mono ?_
      rintro e wq ⟨rfl, hs⟩
      have HA : Hid (RAt w0 wq base br w.heap.size g (Tkt.cc4 sj) #[.int .u64 (rNumV st 8 : Int), .string ⟨(rBy (Tkt.q1 st) 6).toArray⟩, .int .i64 (rNumV (Tkt.q2 st) 4 : Int), .slice (some ⟨gc, 0, none⟩) ((rNumV (Tkt.q7 st) 1)) ((rNumV (Tkt.q7 st) 1)), .slice none 0 0, .int .u64 (rNumV (Tkt.q3 st) 8 : Int), .int .u64 (rNumV (Tkt.q4 st) 8 : Int), .int .u64 (rNumV (Tkt.q5 st) 8 : Int), .int .i64 (IntKind.i64.wrap (rNumV (Tkt.q6 st) 8 : Int)), .int .i64 0, .slice none 0 0]) := Lib.hid (HA.out.step2 hs HgcR.out HgcN.out HgcA.out)
      have HCB : Hid (wq.heap[gc]? = some (.cells (mid pre [.int .i64 (rNumV sj 2 : Int), .int .i64 (rNumV (Tkt.cc1 sj) 4 : Int), .int .i64 (IntKind.i64.wrap (rNumV (Tkt.cc2 sj) 8 : Int)), .int .i64 (rNumV (Tkt.cc3 sj) 1 : Int), .int .i64 0, .int .u64 0] post) 44 (0, 0))) := Lib.hid (by have := hs.r; first | exact (mid_set_eq HPL.out 3 rfl rfl this))
      clear hs
      refine hK.out _ _ (.inr rfl) ?_
      clear hK K
      try simp only [Act.put, List.setIfInBounds_toArray, List.set_cons_zero, List.set_cons_succ]
      refine wpAnyG_done (by kernel_rfl) ?_ _
      clear hHeld
      go_wp2_with fail
      refine wp_region_G (C := fun W => W.cell? ⟨w.heap.size, 0, none⟩ = some (.pointer none) ∧ W.cell? ⟨w.heap.size, 1, none⟩ = some (.pointer (some ⟨br, 0, none⟩))) (s0 := 4) (by kernel_rfl) ?_
      have HA := Lib.hid HA.out.drew
      have HCB := Lib.hid (row_drewT HCB.out)
      generalize wq.drew = wd at *
      have hHeld : (wd.cell? ⟨w.heap.size, 0, none⟩ = some (.pointer none) ∧ wd.cell? ⟨w.heap.size, 1, none⟩ = some (.pointer (some ⟨br, 0, none⟩))) := ⟨cell_of_row _ _ 0 _ _ _ HA.out.rr, cell_of_row _ _ 1 _ _ _ HA.out.rr⟩
      refine wpAnyG_takeM (i := 0) (oi := { dst := some 87, op := Op.load 109 (Operand.tmp 2), type := 109, pos := "ticket.go:186", after := #[], guard := none }) (v := ?_) (ms := [4]) rfl (by kernel_rfl) (by kernel_rfl) (by kernel_rfl) (by kernel_rfl) (by kernel_rfl) (fun _ _ _ h => h) (Or.inl ⟨by rfl, ?_⟩) (by assumption) ?_
      rotate_left
      · intro w hSw; (try dsimp only at hSw); go_simp; try with_reducible rfl
      try simp only [Act.put, List.setIfInBounds_toArray, List.set_cons_zero, List.set_cons_succ]
      refine wpAnyG_takeU (i := 1) (oi := { dst := some 88, op := Op.move (Operand.tmp 5), type := 89, pos := "ticket.go:186", after := #[], guard := none }) (v := ?_) rfl (by kernel_rfl) (by kernel_rfl) (by kernel_rfl) (by decide) (fun _ _ _ h => h) (Or.inl ⟨by rfl, ?_⟩) (by first | exact .inl (by assumption) | exact .inr rfl) ?_
      rotate_left
      · intro w hSw; go_simp; try with_reducible rfl
      try simp only [Act.put, List.setIfInBounds_toArray, List.set_cons_zero, List.set_cons_succ]
      refine wpAnyG_takeU (i := 2) (oi := { dst := some 89, op := Op.nilCheck (Operand.tmp 88), type := 0, pos := "ticket.go:186", after := #[{ on := 1, ground := Ground.data }], guard := none }) (v := ?_) rfl (by kernel_rfl) (by kernel_rfl) (by kernel_rfl) (by decide) (fun _ _ _ h => h) (Or.inl ⟨by rfl, ?_⟩) (by first | exact .inl (by assumption) | exact .inr rfl) ?_
      rotate_left
      · intro w hSw; go_simp; try with_reducible rfl
      try simp only [Act.put, List.setIfInBounds_toArray, List.set_cons_zero, List.set_cons_succ]
      refine wpAnyG_takeU (i := 3) (oi := { dst := some 90, op := Op.fieldAddr 44 (Operand.tmp 89) 4, type := 0, pos := "ticket.go:186", after := #[{ on := 2, ground := Ground.data }], guard := none }) (v := ?_) rfl (by kernel_rfl) (by kernel_rfl) (by kernel_rfl) (by decide) (fun _ _ _ h => h) (Or.inl ⟨by rfl, ?_⟩) (by first | exact .inl (by assumption) | exact .inr rfl) ?_
      rotate_left
      · intro w hSw; go_simp; try with_reducible rfl
      try simp only [Act.put, List.setIfInBounds_toArray, List.set_cons_zero, List.set_cons_succ]
      refine wpAnyG_one (i := 4) (o := { dst := some 91, op := Op.call { callee := Callee.value (Operand.func 128), args := #[Operand.tmp 87, Operand.tmp 90, Operand.const (Value.int IntKind.i64 2)], argTypes := #[109, 158, 3] }, type := 0, pos := "ticket.go:186", after := #[{ on := 0, ground := Ground.data }, { on := 3, ground := Ground.data }], guard := none }) (by kernel_rfl) rfl (fun K hK => ?_)
      go_simp
      go_at_call 128
      refine (gwhole_any base br _ 2 (by decide) _ HA.out.i gc (j * 6 + 4) _ _ HCB.out (by decide) HgcB.out _ (mid_at HPL.out 4 rfl)).mono ?_
      rintro e wq ⟨rfl, hs⟩
      have HA : Hid (RAt w0 wq base br w.heap.size g (Tkt.cc5 sj) #[.int .u64 (rNumV st 8 : Int), .string ⟨(rBy (Tkt.q1 st) 6).toArray⟩, .int .i64 (rNumV (Tkt.q2 st) 4 : Int), .slice (some ⟨gc, 0, none⟩) ((rNumV (Tkt.q7 st) 1)) ((rNumV (Tkt.q7 st) 1)), .slice none 0 0, .int .u64 (rNumV (Tkt.q3 st) 8 : Int), .int .u64 (rNumV (Tkt.q4 st) 8 : Int), .int .u64 (rNumV (Tkt.q5 st) 8 : Int), .int .i64 (IntKind.i64.wrap (rNumV (Tkt.q6 st) 8 : Int)), .int .i64 0, .slice none 0 0]) := Lib.hid (HA.out.step2 hs HgcR.out HgcN.out HgcA.out)
      have HCB : Hid (wq.heap[gc]? = some (.cells (mid pre [.int .i64 (rNumV sj 2 : Int), .int .i64 (rNumV (Tkt.cc1 sj) 4 : Int), .int .i64 (IntKind.i64.wrap (rNumV (Tkt.cc2 sj) 8 : Int)), .int .i64 (rNumV (Tkt.cc3 sj) 1 : Int), .int .i64 (rNumV (Tkt.cc4 sj) 2 : Int), .int .u64 0] post) 44 (0, 0))) := Lib.hid (by have := hs.r; first | exact (mid_set_eq HPL.out 4 rfl rfl this))
      clear hs
      refine hK.out _ _ (.inr rfl) ?_
      clear hK K
      try simp only [Act.put, List.setIfInBounds_toArray, List.set_cons_zero, List.set_cons_succ]
      refine wpAnyG_done (by kernel_rfl) ?_ _
      clear hHeld
      go_wp2_with fail
      refine wp_region_G (C := fun W => W.cell? ⟨w.heap.size, 0, none⟩ = some (.pointer none) ∧ W.cell? ⟨w.heap.size, 1, none⟩ = some (.pointer (some ⟨br, 0, none⟩))) (s0 := 6) (by kernel_rfl) ?_
      have HA := Lib.hid HA.out.drew
      have HCB := Lib.hid (row_drewT HCB.out)
      generalize wq.drew = wd at *
      have hHeld : (wd.cell? ⟨w.heap.size, 0, none⟩ = some (.pointer none) ∧ wd.cell? ⟨w.heap.size, 1, none⟩ = some (.pointer (some ⟨br, 0, none⟩))) := ⟨cell_of_row _ _ 0 _ _ _ HA.out.rr, cell_of_row _ _ 1 _ _ _ HA.out.rr⟩
      refine wpAnyG_takeM (i := 0) (oi := { dst := some 92, op := Op.load 109 (Operand.tmp 2), type := 109, pos := "ticket.go:187", after := #[], guard := none }) (v := ?_) (ms := [1, 6]) rfl (by kernel_rfl) (by kernel_rfl) (by kernel_rfl) (by kernel_rfl) (by kernel_rfl) (fun _ _ _ h => h) (Or.inl ⟨by rfl, ?_⟩) (by assumption) ?_
      rotate_left
      · intro w hSw; (try dsimp only at hSw); go_simp; try with_reducible rfl
      try simp only [Act.put, List.setIfInBounds_toArray, List.set_cons_zero, List.set_cons_succ]
      refine wpAnyG_takeU (i := 1) (oi := { dst := some 93, op := Op.makeFunc (Fn.func 126) #[Operand.tmp 92] #[], type := 153, pos := "ticket.go:187", after := #[{ on := 0, ground := Ground.data }], guard := none }) (v := ?_) rfl (by kernel_rfl) (by kernel_rfl) (by kernel_rfl) (by decide) (fun _ _ _ h => h) (Or.inl ⟨by rfl, ?_⟩) (by first | exact .inl (by assumption) | exact .inr rfl) ?_
      rotate_left
      · intro w hSw; go_simp; try with_reducible rfl
      try simp only [Act.put, List.setIfInBounds_toArray, List.set_cons_zero, List.set_cons_succ]
      refine wpAnyG_takeU (i := 2) (oi := { dst := some 94, op := Op.move (Operand.tmp 5), type := 89, pos := "ticket.go:187", after := #[], guard := none }) (v := ?_) rfl (by kernel_rfl) (by kernel_rfl) (by kernel_rfl) (by decide) (fun _ _ _ h => h) (Or.inl ⟨by rfl, ?_⟩) (by first | exact .inl (by assumption) | exact .inr rfl) ?_
      rotate_left
      · intro w hSw; go_simp; try with_reducible rfl
      try simp only [Act.put, List.setIfInBounds_toArray, List.set_cons_zero, List.set_cons_succ]
      refine wpAnyG_takeU (i := 3) (oi := { dst := some 95, op := Op.nilCheck (Operand.tmp 94), type := 0, pos := "ticket.go:187", after := #[{ on := 2, ground := Ground.data }], guard := none }) (v := ?_) rfl (by kernel_rfl) (by kernel_rfl) (by kernel_rfl) (by decide) (fun _ _ _ h => h) (Or.inl ⟨by rfl, ?_⟩) (by first | exact .inl (by assumption) | exact .inr rfl) ?_
      rotate_left
      · intro w hSw; go_simp; try with_reducible rfl
      try simp only [Act.put, List.setIfInBounds_toArray, List.set_cons_zero, List.set_cons_succ]
      refine wpAnyG_takeU (i := 4) (oi := { dst := some 96, op := Op.fieldAddr 44 (Operand.tmp 95) 5, type := 0, pos := "ticket.go:187", after := #[{ on := 3, ground := Ground.data }], guard := none }) (v := ?_) rfl (by kernel_rfl) (by kernel_rfl) (by kernel_rfl) (by decide) (fun _ _ _ h => h) (Or.inl ⟨by rfl, ?_⟩) (by first | exact .inl (by assumption) | exact .inr rfl) ?_
      rotate_left
      · intro w hSw; go_simp; try with_reducible rfl
      try simp only [Act.put, List.setIfInBounds_toArray, List.set_cons_zero, List.set_cons_succ]
      refine wpAnyG_one (i := 5) (o := { dst := some 97, op := Op.buildSlice 188 1 #[(0, Operand.tmp 96)], type := 188, pos := "ticket.go:187", after := #[{ on := 4, ground := Ground.data }], guard := none }) (by kernel_rfl) rfl (fun K hK => ?_)
      go_simp
      have hbn := (Below.refl wd.heap.size wd).alloc (Nat.le_refl _) (.cells #[.pointer (some ⟨gc, j * 6 + 5, none⟩)] 154 (0, 0))
      have HA := Lib.hid (HA.out.below hbn)
      have HCB := Lib.hid ((hbn.block _ (block_lt HCB.out)).trans HCB.out)
      have HGL := Lib.hid (new_rowW wd (.cells #[.pointer (some ⟨gc, j * 6 + 5, none⟩)] 154 (0, 0)) _ rfl)
      clear hbn
      refine hK.out _ _ (.inl ⟨cell_of_row _ _ 0 _ _ _ HA.out.rr, cell_of_row _ _ 1 _ _ _ HA.out.rr⟩) ?_
      clear hK K
      try simp only [Act.put, List.setIfInBounds_toArray, List.set_cons_zero, List.set_cons_succ]
      refine wpAnyG_one (i := 6) (o := { dst := some 98, op := Op.call { callee := Callee.value (Operand.func 125), args := #[Operand.tmp 93, Operand.const (Value.int IntKind.i64 8), Operand.tmp 97], argTypes := #[153, 3, 188] }, type := 0, pos := "ticket.go:187", after := #[{ on := 1, ground := Ground.data }, { on := 5, ground := Ground.data }], guard := none }) (by kernel_rfl) rfl (fun K hK => ?_)
      go_simp
      go_at_call 125
      refine (gover_any base br _ [j * 6 + 5] _ HA.out.i gc _ _ HCB.out (by decide) (by decide) HgcB.out (by intro o ho; obtain rfl := List.mem_singleton.1 ho; exact mid_lt HPL.out 5 (by simp)) (by simp) _ 1 (by simp) HGL.out).mono ?_
      rintro e wq ⟨rfl, hs⟩
      have HA : Hid (RAt w0 wq base br w.heap.size g (Tkt.cc6 sj) #[.int .u64 (rNumV st 8 : Int), .string ⟨(rBy (Tkt.q1 st) 6).toArray⟩, .int .i64 (rNumV (Tkt.q2 st) 4 : Int), .slice (some ⟨gc, 0, none⟩) ((rNumV (Tkt.q7 st) 1)) ((rNumV (Tkt.q7 st) 1)), .slice none 0 0, .int .u64 (rNumV (Tkt.q3 st) 8 : Int), .int .u64 (rNumV (Tkt.q4 st) 8 : Int), .int .u64 (rNumV (Tkt.q5 st) 8 : Int), .int .i64 (IntKind.i64.wrap (rNumV (Tkt.q6 st) 8 : Int)), .int .i64 0, .slice none 0 0]) := Lib.hid (HA.out.step2 hs HgcR.out HgcN.out HgcA.out)
      have HCB : Hid (wq.heap[gc]? = some (.cells (mid pre [.int .i64 (rNumV sj 2 : Int), .int .i64 (rNumV (Tkt.cc1 sj) 4 : Int), .int .i64 (IntKind.i64.wrap (rNumV (Tkt.cc2 sj) 8 : Int)), .int .i64 (rNumV (Tkt.cc3 sj) 1 : Int), .int .i64 (rNumV (Tkt.cc4 sj) 2 : Int), .int .u64 (rNumV (Tkt.cc5 sj) 8 : Int)] post) 44 (0, 0))) := Lib.hid (by have := hs.r; first | exact (mid_set_eq HPL.out 5 rfl rfl this))
      clear hs
      clear HGL
      refine hK.out _ _ (.inr rfl) ?_
      clear hK K
      try simp only [Act.put, List.setIfInBounds_toArray, List.set_cons_zero, List.set_cons_succ]
      refine wpAnyG_done (by kernel_rfl) ?_ _
      clear hHeld
      go_wp2
      go_roundw
      case rel =>
        refine ⟨j + 1, by omega, by go_num, ?_, ?_⟩
        · show RAt _ _ _ _ _ _ (Tkt.gCs (Tkt.itS Tkt.gCs j (Tkt.q8 st))) _; rw [HSJ.out]; exact HA.out
        · rw [HNX.out]; exact HCB.out
      case measure => simp [intOf]; omega
    · have hjn : j = (rNumV (Tkt.q7 st) 1) := by omega
      subst hjn
      have Hgc : Hid (wr.heap[gc]? = some (.cells ((encL Cpn.cells (Tkt.itL Tkt.gC Tkt.gCs ((rNumV (Tkt.q7 st) 1)) (Tkt.q8 st))).toArray) 44 (0, 0))) := Lib.hid (by have := Hgc.out; rw [rowJ_all] at this; exact this)
      have HA : Hid (RAt w0 wr base br w.heap.size g (Tkt.q9 st) #[.int .u64 (rNumV st 8 : Int), .string ⟨(rBy (Tkt.q1 st) 6).toArray⟩, .int .i64 (rNumV (Tkt.q2 st) 4 : Int), .slice (some ⟨gc, 0, none⟩) ((rNumV (Tkt.q7 st) 1)) ((rNumV (Tkt.q7 st) 1)), .slice none 0 0, .int .u64 (rNumV (Tkt.q3 st) 8 : Int), .int .u64 (rNumV (Tkt.q4 st) 8 : Int), .int .u64 (rNumV (Tkt.q5 st) 8 : Int), .int .i64 (IntKind.i64.wrap (rNumV (Tkt.q6 st) 8 : Int)), .int .i64 0, .slice none 0 0]) := Lib.hid HA.out
      go_wp2_with fail
      refine wp_region_G (C := fun W => W.cell? ⟨w.heap.size, 0, none⟩ = some (.pointer none) ∧ W.cell? ⟨w.heap.size, 1, none⟩ = some (.pointer (some ⟨br, 0, none⟩)) ∧ W.cell? ⟨g, 4, none⟩ = some (.slice none 0 0)) (s0 := 9) (by kernel_rfl) ?_
      have HA := Lib.hid HA.out.drew
      have Hgc := Lib.hid (row_drewT Hgc.out)
      generalize wr.drew = wd at *
      have hHeld : (wd.cell? ⟨w.heap.size, 0, none⟩ = some (.pointer none) ∧ wd.cell? ⟨w.heap.size, 1, none⟩ = some (.pointer (some ⟨br, 0, none⟩)) ∧ wd.cell? ⟨g, 4, none⟩ = some (.slice none 0 0)) := ⟨cell_of_row _ _ 0 _ _ _ HA.out.rr, cell_of_row _ _ 1 _ _ _ HA.out.rr, cell_of_row _ _ 4 _ _ _ HA.out.rg⟩
      refine wpAnyG_takeU (i := 0) (oi := { dst := some 100, op := Op.move (Operand.tmp 1), type := 111, pos := "ticket.go:189", after := #[], guard := none }) (v := ?_) rfl (by kernel_rfl) (by kernel_rfl) (by kernel_rfl) (by decide) (fun _ _ _ h => h) (Or.inl ⟨by rfl, ?_⟩) (by first | exact .inl (by assumption) | exact .inr rfl) ?_
      rotate_left
      · intro w hSw; go_simp; try with_reducible rfl
      try simp only [Act.put, List.setIfInBounds_toArray, List.set_cons_zero, List.set_cons_succ]
      refine wpAnyG_takeM (i := 1) (oi := { dst := some 101, op := Op.load 109 (Operand.tmp 2), type := 109, pos := "ticket.go:189", after := #[], guard := none }) (v := ?_) (ms := [6, 7, 8, 9]) rfl (by kernel_rfl) (by kernel_rfl) (by kernel_rfl) (by kernel_rfl) (by kernel_rfl) (fun _ _ _ h => h) (Or.inl ⟨by rfl, ?_⟩) (by assumption) ?_
      rotate_left
      · intro w hSw; (try dsimp only at hSw); go_simp; try with_reducible rfl
      try simp only [Act.put, List.setIfInBounds_toArray, List.set_cons_zero, List.set_cons_succ]
      refine wpAnyG_takeU (i := 2) (oi := { dst := some 102, op := Op.move (Operand.tmp 1), type := 111, pos := "ticket.go:189", after := #[], guard := none }) (v := ?_) rfl (by kernel_rfl) (by kernel_rfl) (by kernel_rfl) (by decide) (fun _ _ _ h => h) (Or.inl ⟨by rfl, ?_⟩) (by first | exact .inl (by assumption) | exact .inr rfl) ?_
      rotate_left
      · intro w hSw; go_simp; try with_reducible rfl
      try simp only [Act.put, List.setIfInBounds_toArray, List.set_cons_zero, List.set_cons_succ]
      refine wpAnyG_takeU (i := 3) (oi := { dst := some 103, op := Op.nilCheck (Operand.tmp 102), type := 0, pos := "ticket.go:189", after := #[{ on := 2, ground := Ground.data }], guard := none }) (v := ?_) rfl (by kernel_rfl) (by kernel_rfl) (by kernel_rfl) (by decide) (fun _ _ _ h => h) (Or.inl ⟨by rfl, ?_⟩) (by first | exact .inl (by assumption) | exact .inr rfl) ?_
      rotate_left
      · intro w hSw; go_simp; try with_reducible rfl
      try simp only [Act.put, List.setIfInBounds_toArray, List.set_cons_zero, List.set_cons_succ]
      refine wpAnyG_takeU (i := 4) (oi := { dst := some 104, op := Op.fieldAddr 27 (Operand.tmp 103) 4, type := 0, pos := "ticket.go:189", after := #[{ on := 3, ground := Ground.data }], guard := none }) (v := ?_) rfl (by kernel_rfl) (by kernel_rfl) (by kernel_rfl) (by decide) (fun _ _ _ h => h) (Or.inl ⟨by rfl, ?_⟩) (by first | exact .inl (by assumption) | exact .inr rfl) ?_
      rotate_left
      · intro w hSw; go_simp; try with_reducible rfl
      try simp only [Act.put, List.setIfInBounds_toArray, List.set_cons_zero, List.set_cons_succ]
      refine wpAnyG_takeM (i := 5) (oi := { dst := some 105, op := Op.load 24 (Operand.tmp 104), type := 24, pos := "ticket.go:189", after := #[{ on := 4, ground := Ground.data }], guard := none }) (v := ?_) (ms := [6, 7, 8, 9]) rfl (by kernel_rfl) (by kernel_rfl) (by kernel_rfl) (by kernel_rfl) (by kernel_rfl) (fun _ _ _ h => h) (Or.inl ⟨by rfl, ?_⟩) (by assumption) ?_
      rotate_left
      · intro w hSw; (try dsimp only at hSw); go_simp; try with_reducible rfl
      try simp only [Act.put, List.setIfInBounds_toArray, List.set_cons_zero, List.set_cons_succ]
      refine wpAnyG_one (i := 6) (o := { dst := some 106, op := Op.call { callee := Callee.value (Operand.func 132), args := #[Operand.tmp 101, Operand.tmp 105], argTypes := #[109, 24] }, type := 24, pos := "ticket.go:189", after := #[{ on := 1, ground := Ground.data }, { on := 5, ground := Ground.data }], guard := none }) (by kernel_rfl) rfl (fun K hK => ?_)
      go_simp
      go_at_call 132
      refine (glistTx_any base br _ _ HA.out.i).mono ?_
      rintro e wq ⟨gx, rfl, hgl, hrl, hi, hbl, hk⟩
      have HA0 := HA
      have HA : Hid (RAt w0 wq base br w.heap.size g (Tkt.q10 st) #[.int .u64 (rNumV st 8 : Int), .string ⟨(rBy (Tkt.q1 st) 6).toArray⟩, .int .i64 (rNumV (Tkt.q2 st) 4 : Int), .slice (some ⟨gc, 0, none⟩) ((rNumV (Tkt.q7 st) 1)) ((rNumV (Tkt.q7 st) 1)), .slice none 0 0, .int .u64 (rNumV (Tkt.q3 st) 8 : Int), .int .u64 (rNumV (Tkt.q4 st) 8 : Int), .int .u64 (rNumV (Tkt.q5 st) 8 : Int), .int .i64 (IntKind.i64.wrap (rNumV (Tkt.q6 st) 8 : Int)), .int .i64 0, .slice none 0 0]) := Lib.hid (HA.out.keep hi hbl hk)
      have Hgc := Lib.hid (hk.row Hgc.out (by decide))
      have Hgx := Lib.hid hrl
      have HGL0 := Lib.hid hgl
      have HgxN : Hid (gx ≠ g) := Lib.hid (row_neT hrl HA.out.rg (by decide))
      have HgxR : Hid (gx ≠ w.heap.size) := Lib.hid (row_neT hrl HA.out.rr (by decide))
      have HgxB : Hid (base ≤ gx) := Lib.hid (Nat.le_trans (Nat.le_trans HA0.out.i.lt.1 (Nat.le_of_lt HA0.out.i.lt.2)) hgl)
      have HgxA : Hid (w0.heap.size ≤ gx) := Lib.hid (Nat.le_trans HA0.out.k.size hgl)
      clear hi hbl hk hrl hgl HGL0
      refine hK.out _ _ (.inl ⟨cell_of_row _ _ 0 _ _ _ HA.out.rr, cell_of_row _ _ 1 _ _ _ HA.out.rr, cell_of_row _ _ 4 _ _ _ HA.out.rg⟩) ?_
      clear hK K
      try simp only [Act.put, List.setIfInBounds_toArray, List.set_cons_zero, List.set_cons_succ]
      have hHeld : (wq.cell? ⟨w.heap.size, 0, none⟩ = some (.pointer none) ∧ wq.cell? ⟨w.heap.size, 1, none⟩ = some (.pointer (some ⟨br, 0, none⟩)) ∧ wq.cell? ⟨g, 4, none⟩ = some (.slice none 0 0)) := ⟨cell_of_row _ _ 0 _ _ _ HA.out.rr, cell_of_row _ _ 1 _ _ _ HA.out.rr, cell_of_row _ _ 4 _ _ _ HA.out.rg⟩
      refine wpAnyG_takeU (i := 7) (oi := { dst := some 107, op := Op.nilCheck (Operand.tmp 100), type := 0, pos := "ticket.go:189", after := #[{ on := 0, ground := Ground.data }, { on := 0, ground := Ground.phase }, { on := 1, ground := Ground.phase }, { on := 2, ground := Ground.phase }, { on := 3, ground := Ground.phase }, { on := 4, ground := Ground.phase }, { on := 5, ground := Ground.phase }, { on := 6, ground := Ground.phase }], guard := none }) (v := ?_) rfl (by kernel_rfl) (by kernel_rfl) (by kernel_rfl) (by decide) (fun _ _ _ h => h) (Or.inl ⟨by rfl, ?_⟩) (by first | exact .inl (by assumption) | exact .inr rfl) ?_
      rotate_left
      · intro w hSw; go_simp; try with_reducible rfl
      try simp only [Act.put, List.setIfInBounds_toArray, List.set_cons_zero, List.set_cons_succ]
      refine wpAnyG_takeU (i := 8) (oi := { dst := some 108, op := Op.fieldAddr 27 (Operand.tmp 107) 4, type := 0, pos := "ticket.go:189", after := #[{ on := 7, ground := Ground.data }, { on := 0, ground := Ground.phase }, { on := 1, ground := Ground.phase }, { on := 2, ground := Ground.phase }, { on := 3, ground := Ground.phase }, { on := 4, ground := Ground.phase }, { on := 5, ground := Ground.phase }, { on := 6, ground := Ground.phase }], guard := none }) (v := ?_) rfl (by kernel_rfl) (by kernel_rfl) (by kernel_rfl) (by decide) (fun _ _ _ h => h) (Or.inl ⟨by rfl, ?_⟩) (by first | exact .inl (by assumption) | exact .inr rfl) ?_
      rotate_left
      · intro w hSw; go_simp; try with_reducible rfl
      try simp only [Act.put, List.setIfInBounds_toArray, List.set_cons_zero, List.set_cons_succ]
      refine wpAnyG_one (i := 9) (o := { dst := none, op := Op.store 24 (Operand.tmp 108) (Operand.tmp 106), type := 0, pos := "ticket.go:189", after := #[{ on := 8, ground := Ground.data }, { on := 6, ground := Ground.data }, { on := 6, ground := Ground.chain }, { on := 0, ground := Ground.phase }, { on := 1, ground := Ground.phase }, { on := 2, ground := Ground.phase }, { on := 3, ground := Ground.phase }, { on := 4, ground := Ground.phase }, { on := 5, ground := Ground.phase }, { on := 6, ground := Ground.phase }], guard := none }) (by kernel_rfl) rfl (fun K hK => ?_)
      have kc := fun j => cell_of_row wq g j _ _ _ HA.out.rg
      have kf := fun j => frozen_of_row wq g j _ _ HA.out.rg
      go_simp
      refine hK.out _ _ (.inr rfl) ?_
      clear hK K
      try simp only [Act.put, List.setIfInBounds_toArray, List.set_cons_zero, List.set_cons_succ]
      refine wpAnyG_done (by kernel_rfl) ?_ _
      have HA : Hid (RAt w0 (wq.setCell ⟨g, 4, none⟩ (.slice (some ⟨gx, 0, none⟩) ((rNumV (Tkt.q9 st) 1)) ((rNumV (Tkt.q9 st) 1)))) base br w.heap.size g (Tkt.q10 st) #[.int .u64 (rNumV st 8 : Int), .string ⟨(rBy (Tkt.q1 st) 6).toArray⟩, .int .i64 (rNumV (Tkt.q2 st) 4 : Int), .slice (some ⟨gc, 0, none⟩) ((rNumV (Tkt.q7 st) 1)) ((rNumV (Tkt.q7 st) 1)), .slice (some ⟨gx, 0, none⟩) ((rNumV (Tkt.q9 st) 1)) ((rNumV (Tkt.q9 st) 1)), .int .u64 (rNumV (Tkt.q3 st) 8 : Int), .int .u64 (rNumV (Tkt.q4 st) 8 : Int), .int .u64 (rNumV (Tkt.q5 st) 8 : Int), .int .i64 (IntKind.i64.wrap (rNumV (Tkt.q6 st) 8 : Int)), .int .i64 0, .slice none 0 0]) := Lib.hid (HA.out.set 4 _)
      have Hgc := Lib.hid (row_set Hgc.out HgcN.out 4 (.slice (some ⟨gx, 0, none⟩) ((rNumV (Tkt.q9 st) 1)) ((rNumV (Tkt.q9 st) 1))))
      have Hgx := Lib.hid (row_set Hgx.out HgxN.out 4 (.slice (some ⟨gx, 0, none⟩) ((rNumV (Tkt.q9 st) 1)) ((rNumV (Tkt.q9 st) 1))))
      clear hHeld kc kf HA0
      generalize wq.setCell ⟨g, 4, none⟩ (.slice (some ⟨gx, 0, none⟩) ((rNumV (Tkt.q9 st) 1)) ((rNumV (Tkt.q9 st) 1))) = wq2 at *
      have Hgcgx : Hid (gc ≠ gx) := Lib.hid (row_neT Hgc.out Hgx.out (by decide))
      have Hgx : Hid (wq2.heap[gx]? = some (.cells (rowJ Txx.cells ⟨0, 0⟩ ((rNumV (Tkt.q9 st) 1)) Tkt.gX Tkt.gXs (Tkt.q10 st) 0) 48 (0, 0))) := Lib.hid (by rw [rowJ_zero]; exact Hgx.out)
      have hNb : (rNumV (Tkt.q9 st) 1) < 256 := rNumV_lt _ 1
      have HNB := Lib.hid hNb
      have hcg := fun j => cell_of_row wq2 g j _ _ _ HA.out.rg
      go_wp2_with fail
      clear hcg hNb
      go_loopw [114] (fun i wr => ∃ j : Nat, j ≤ (rNumV (Tkt.q9 st) 1) ∧ i = .int .i64 j ∧ RAt w0 wr base br w.heap.size g (Tkt.itS Tkt.gXs j (Tkt.q10 st)) #[.int .u64 (rNumV st 8 : Int), .string ⟨(rBy (Tkt.q1 st) 6).toArray⟩, .int .i64 (rNumV (Tkt.q2 st) 4 : Int), .slice (some ⟨gc, 0, none⟩) ((rNumV (Tkt.q7 st) 1)) ((rNumV (Tkt.q7 st) 1)), .slice (some ⟨gx, 0, none⟩) ((rNumV (Tkt.q9 st) 1)) ((rNumV (Tkt.q9 st) 1)), .int .u64 (rNumV (Tkt.q3 st) 8 : Int), .int .u64 (rNumV (Tkt.q4 st) 8 : Int), .int .u64 (rNumV (Tkt.q5 st) 8 : Int), .int .i64 (IntKind.i64.wrap (rNumV (Tkt.q6 st) 8 : Int)), .int .i64 0, .slice none 0 0] ∧ wr.heap[gx]? = some (.cells (rowJ Txx.cells ⟨0, 0⟩ ((rNumV (Tkt.q9 st) 1)) Tkt.gX Tkt.gXs (Tkt.q10 st) j) 48 (0, 0)) ∧ wr.heap[gc]? = some (.cells ((encL Cpn.cells (Tkt.itL Tkt.gC Tkt.gCs ((rNumV (Tkt.q7 st) 1)) (Tkt.q8 st))).toArray) 44 (0, 0))) (fun i _ => (rNumV (Tkt.q9 st) 1) - (intOf i).toNat)
      case atStart => exact ⟨0, Nat.zero_le _, rfl, HA.out, Hgx.out, Hgc.out⟩
      case round =>
        obtain ⟨j, hj, rfl, hrel, hr0, hrgc⟩ := hrel
        have hNb := HNB.out
        have HA := Lib.hid hrel
        have Hgx := Lib.hid hr0
        have Hgc := Lib.hid hrgc
        clear hrel hr0 hrgc
        by_cases hlt : j < (rNumV (Tkt.q9 st) 1)
        · have HLT := Lib.hid hlt
          obtain ⟨pre, hpre⟩ : ∃ p, encL Txx.cells (Tkt.itL Tkt.gX Tkt.gXs j (Tkt.q10 st)) = p := ⟨_, rfl⟩
          obtain ⟨post, hpost⟩ : ∃ p, encL Txx.cells (List.replicate ((rNumV (Tkt.q9 st) 1) - j - 1) ⟨0, 0⟩) = p := ⟨_, rfl⟩
          have hpl : pre.length = j * 2 := by rw [← hpre, encL_length Txx.cells_length, Tkt.itL_length]
          have HCB : Hid (wr.heap[gx]? = some (.cells (mid pre [.int .i64 0, .int .i64 0] post) 48 (0, 0))) := Lib.hid (by have := Hgx.out; rw [rowJ_mid hlt, hpre, hpost] at this; exact this)
          have HNX : Hid (rowJ Txx.cells ⟨0, 0⟩ ((rNumV (Tkt.q9 st) 1)) Tkt.gX Tkt.gXs (Tkt.q10 st) (j + 1) = mid pre (Tkt.gX (Tkt.itS Tkt.gXs j (Tkt.q10 st))).cells post) := Lib.hid (by rw [rowJ_next hlt, hpre, hpost])
          have HPL := Lib.hid hpl
          obtain ⟨sj, hsj⟩ : ∃ s, Tkt.itS Tkt.gXs j (Tkt.q10 st) = s := ⟨_, rfl⟩
          rw [hsj] at HA HNX
          have HSJ := Lib.hid hsj
          clear hpre hpost hpl hsj
          go_wp2_with fail
          refine wp_region_G (C := fun W => W.cell? ⟨w.heap.size, 0, none⟩ = some (.pointer none) ∧ W.cell? ⟨w.heap.size, 1, none⟩ = some (.pointer (some ⟨br, 0, none⟩)) ∧ W.cell? ⟨g, 4, none⟩ = some (.slice (some ⟨gx, 0, none⟩) ((rNumV (Tkt.q9 st) 1)) ((rNumV (Tkt.q9 st) 1)))) (s0 := 8) (by kernel_rfl) ?_
          have HA := Lib.hid HA.out.drew
          have Hgc := Lib.hid (row_drewT Hgc.out)
          have HCB := Lib.hid (row_drewT HCB.out)
          generalize wr.drew = wd at *
          have hHeld : (wd.cell? ⟨w.heap.size, 0, none⟩ = some (.pointer none) ∧ wd.cell? ⟨w.heap.size, 1, none⟩ = some (.pointer (some ⟨br, 0, none⟩)) ∧ wd.cell? ⟨g, 4, none⟩ = some (.slice (some ⟨gx, 0, none⟩) ((rNumV (Tkt.q9 st) 1)) ((rNumV (Tkt.q9 st) 1)))) := ⟨cell_of_row _ _ 0 _ _ _ HA.out.rr, cell_of_row _ _ 1 _ _ _ HA.out.rr, cell_of_row _ _ 4 _ _ _ HA.out.rg⟩
          refine wpAnyG_takeM (i := 0) (oi := { dst := some 117, op := Op.load 109 (Operand.tmp 2), type := 109, pos := "ticket.go:191", after := #[], guard := none }) (v := ?_) (ms := [8]) rfl (by kernel_rfl) (by kernel_rfl) (by kernel_rfl) (by kernel_rfl) (by kernel_rfl) (fun _ _ _ h => h) (Or.inl ⟨by rfl, ?_⟩) (by assumption) ?_
          rotate_left
          · intro w hSw; (try dsimp only at hSw); go_simp; try with_reducible rfl
          try simp only [Act.put, List.setIfInBounds_toArray, List.set_cons_zero, List.set_cons_succ]
          refine wpAnyG_takeU (i := 1) (oi := { dst := some 118, op := Op.move (Operand.tmp 1), type := 111, pos := "ticket.go:191", after := #[], guard := none }) (v := ?_) rfl (by kernel_rfl) (by kernel_rfl) (by kernel_rfl) (by decide) (fun _ _ _ h => h) (Or.inl ⟨by rfl, ?_⟩) (by first | exact .inl (by assumption) | exact .inr rfl) ?_
          rotate_left
          · intro w hSw; go_simp; try with_reducible rfl
          try simp only [Act.put, List.setIfInBounds_toArray, List.set_cons_zero, List.set_cons_succ]
          refine wpAnyG_takeU (i := 2) (oi := { dst := some 119, op := Op.nilCheck (Operand.tmp 118), type := 0, pos := "ticket.go:191", after := #[{ on := 1, ground := Ground.data }], guard := none }) (v := ?_) rfl (by kernel_rfl) (by kernel_rfl) (by kernel_rfl) (by decide) (fun _ _ _ h => h) (Or.inl ⟨by rfl, ?_⟩) (by first | exact .inl (by assumption) | exact .inr rfl) ?_
          rotate_left
          · intro w hSw; go_simp; try with_reducible rfl
          try simp only [Act.put, List.setIfInBounds_toArray, List.set_cons_zero, List.set_cons_succ]
          refine wpAnyG_takeU (i := 3) (oi := { dst := some 120, op := Op.fieldAddr 27 (Operand.tmp 119) 4, type := 0, pos := "ticket.go:191", after := #[{ on := 2, ground := Ground.data }], guard := none }) (v := ?_) rfl (by kernel_rfl) (by kernel_rfl) (by kernel_rfl) (by decide) (fun _ _ _ h => h) (Or.inl ⟨by rfl, ?_⟩) (by first | exact .inl (by assumption) | exact .inr rfl) ?_
          rotate_left
          · intro w hSw; go_simp; try with_reducible rfl
          try simp only [Act.put, List.setIfInBounds_toArray, List.set_cons_zero, List.set_cons_succ]
          refine wpAnyG_takeM (i := 4) (oi := { dst := some 121, op := Op.load 24 (Operand.tmp 120), type := 24, pos := "ticket.go:191", after := #[{ on := 3, ground := Ground.data }], guard := none }) (v := ?_) (ms := [6, 7, 8]) rfl (by kernel_rfl) (by kernel_rfl) (by kernel_rfl) (by kernel_rfl) (by kernel_rfl) (fun _ _ _ h => h) (Or.inl ⟨by rfl, ?_⟩) (by assumption) ?_
          rotate_left
          · intro w hSw; (try dsimp only at hSw); go_simp; try with_reducible rfl
          try simp only [Act.put, List.setIfInBounds_toArray, List.set_cons_zero, List.set_cons_succ]
          refine wpAnyG_takeU (i := 5) (oi := { dst := some 122, op := Op.move (Operand.tmp 6), type := 3, pos := "ticket.go:191", after := #[], guard := none }) (v := ?_) rfl (by kernel_rfl) (by kernel_rfl) (by kernel_rfl) (by decide) (fun _ _ _ h => h) (Or.inl ⟨by rfl, ?_⟩) (by first | exact .inl (by assumption) | exact .inr rfl) ?_
          rotate_left
          · intro w hSw; go_simp; try with_reducible rfl
          try simp only [Act.put, List.setIfInBounds_toArray, List.set_cons_zero, List.set_cons_succ]
          refine wpAnyG_takeU (i := 6) (oi := { dst := some 123, op := Op.indexAddr 24 (Operand.tmp 121) (Operand.tmp 122), type := 0, pos := "ticket.go:191", after := #[{ on := 4, ground := Ground.data }, { on := 5, ground := Ground.data }], guard := none }) (v := ?_) rfl (by kernel_rfl) (by kernel_rfl) (by kernel_rfl) (by decide) (fun _ _ _ h => h) (Or.inl ⟨by rfl, ?_⟩) (by first | exact .inl (by assumption) | exact .inr rfl) ?_
          rotate_left
          · intro w hSw; go_simp; try with_reducible rfl
          try simp only [Act.put, List.setIfInBounds_toArray, List.set_cons_zero, List.set_cons_succ]
          refine wpAnyG_takeU (i := 7) (oi := { dst := some 124, op := Op.fieldAddr 48 (Operand.tmp 123) 0, type := 0, pos := "ticket.go:191", after := #[{ on := 6, ground := Ground.data }], guard := none }) (v := ?_) rfl (by kernel_rfl) (by kernel_rfl) (by kernel_rfl) (by decide) (fun _ _ _ h => h) (Or.inl ⟨by rfl, ?_⟩) (by first | exact .inl (by assumption) | exact .inr rfl) ?_
          rotate_left
          · intro w hSw; go_simp; try with_reducible rfl
          try simp only [Act.put, List.setIfInBounds_toArray, List.set_cons_zero, List.set_cons_succ]
          refine wpAnyG_one (i := 8) (o := { dst := some 125, op := Op.call { callee := Callee.value (Operand.func 128), args := #[Operand.tmp 117, Operand.tmp 124, Operand.const (Value.int IntKind.i64 1)], argTypes := #[109, 158, 3] }, type := 0, pos := "ticket.go:191", after := #[{ on := 0, ground := Ground.data }, { on := 7, ground := Ground.data }], guard := none }) (by kernel_rfl) rfl (fun K hK => ?_)
          go_simp
          go_at_call 128
          refine (gwhole_any base br _ 1 (by decide) _ HA.out.i gx (j * 2) _ _ HCB.out (by decide) HgxB.out _ (mid_at HPL.out 0 rfl)).mono ?_
          rintro e wq ⟨rfl, hs⟩
          have HA : Hid (RAt w0 wq base br w.heap.size g (Tkt.xx1 sj) #[.int .u64 (rNumV st 8 : Int), .string ⟨(rBy (Tkt.q1 st) 6).toArray⟩, .int .i64 (rNumV (Tkt.q2 st) 4 : Int), .slice (some ⟨gc, 0, none⟩) ((rNumV (Tkt.q7 st) 1)) ((rNumV (Tkt.q7 st) 1)), .slice (some ⟨gx, 0, none⟩) ((rNumV (Tkt.q9 st) 1)) ((rNumV (Tkt.q9 st) 1)), .int .u64 (rNumV (Tkt.q3 st) 8 : Int), .int .u64 (rNumV (Tkt.q4 st) 8 : Int), .int .u64 (rNumV (Tkt.q5 st) 8 : Int), .int .i64 (IntKind.i64.wrap (rNumV (Tkt.q6 st) 8 : Int)), .int .i64 0, .slice none 0 0]) := Lib.hid (HA.out.step2 hs HgxR.out HgxN.out HgxA.out)
          have HCB : Hid (wq.heap[gx]? = some (.cells (mid pre [.int .i64 (rNumV sj 1 : Int), .int .i64 0] post) 48 (0, 0))) := Lib.hid (by have := hs.r; first | exact (mid_set_eq HPL.out 0 rfl rfl this))
          have Hgc := Lib.hid (hs.row Hgc.out Hgcgx.out (by decide))
          clear hs
          refine hK.out _ _ (.inr rfl) ?_
          clear hK K
          try simp only [Act.put, List.setIfInBounds_toArray, List.set_cons_zero, List.set_cons_succ]
          refine wpAnyG_done (by kernel_rfl) ?_ _
          clear hHeld
          go_wp2_with fail
          refine wp_region_G (C := fun W => W.cell? ⟨w.heap.size, 0, none⟩ = some (.pointer none) ∧ W.cell? ⟨w.heap.size, 1, none⟩ = some (.pointer (some ⟨br, 0, none⟩)) ∧ W.cell? ⟨g, 4, none⟩ = some (.slice (some ⟨gx, 0, none⟩) ((rNumV (Tkt.q9 st) 1)) ((rNumV (Tkt.q9 st) 1)))) (s0 := 8) (by kernel_rfl) ?_
          have HA := Lib.hid HA.out.drew
          have Hgc := Lib.hid (row_drewT Hgc.out)
          have HCB := Lib.hid (row_drewT HCB.out)
          generalize wq.drew = wd at *
          have hHeld : (wd.cell? ⟨w.heap.size, 0, none⟩ = some (.pointer none) ∧ wd.cell? ⟨w.heap.size, 1, none⟩ = some (.pointer (some ⟨br, 0, none⟩)) ∧ wd.cell? ⟨g, 4, none⟩ = some (.slice (some ⟨gx, 0, none⟩) ((rNumV (Tkt.q9 st) 1)) ((rNumV (Tkt.q9 st) 1)))) := ⟨cell_of_row _ _ 0 _ _ _ HA.out.rr, cell_of_row _ _ 1 _ _ _ HA.out.rr, cell_of_row _ _ 4 _ _ _ HA.out.rg⟩
          refine wpAnyG_takeM (i := 0) (oi := { dst := some 126, op := Op.load 109 (Operand.tmp 2), type := 109, pos := "ticket.go:192", after := #[], guard := none }) (v := ?_) (ms := [8]) rfl (by kernel_rfl) (by kernel_rfl) (by kernel_rfl) (by kernel_rfl) (by kernel_rfl) (fun _ _ _ h => h) (Or.inl ⟨by rfl, ?_⟩) (by assumption) ?_
          rotate_left
          · intro w hSw; (try dsimp only at hSw); go_simp; try with_reducible rfl
          try simp only [Act.put, List.setIfInBounds_toArray, List.set_cons_zero, List.set_cons_succ]
          refine wpAnyG_takeU (i := 1) (oi := { dst := some 127, op := Op.move (Operand.tmp 1), type := 111, pos := "ticket.go:192", after := #[], guard := none }) (v := ?_) rfl (by kernel_rfl) (by kernel_rfl) (by kernel_rfl) (by decide) (fun _ _ _ h => h) (Or.inl ⟨by rfl, ?_⟩) (by first | exact .inl (by assumption) | exact .inr rfl) ?_
          rotate_left
          · intro w hSw; go_simp; try with_reducible rfl
          try simp only [Act.put, List.setIfInBounds_toArray, List.set_cons_zero, List.set_cons_succ]
          refine wpAnyG_takeU (i := 2) (oi := { dst := some 128, op := Op.nilCheck (Operand.tmp 127), type := 0, pos := "ticket.go:192", after := #[{ on := 1, ground := Ground.data }], guard := none }) (v := ?_) rfl (by kernel_rfl) (by kernel_rfl) (by kernel_rfl) (by decide) (fun _ _ _ h => h) (Or.inl ⟨by rfl, ?_⟩) (by first | exact .inl (by assumption) | exact .inr rfl) ?_
          rotate_left
          · intro w hSw; go_simp; try with_reducible rfl
          try simp only [Act.put, List.setIfInBounds_toArray, List.set_cons_zero, List.set_cons_succ]
          refine wpAnyG_takeU (i := 3) (oi := { dst := some 129, op := Op.fieldAddr 27 (Operand.tmp 128) 4, type := 0, pos := "ticket.go:192", after := #[{ on := 2, ground := Ground.data }], guard := none }) (v := ?_) rfl (by kernel_rfl) (by kernel_rfl) (by kernel_rfl) (by decide) (fun _ _ _ h => h) (Or.inl ⟨by rfl, ?_⟩) (by first | exact .inl (by assumption) | exact .inr rfl) ?_
          rotate_left
          · intro w hSw; go_simp; try with_reducible rfl
          try simp only [Act.put, List.setIfInBounds_toArray, List.set_cons_zero, List.set_cons_succ]
          refine wpAnyG_takeM (i := 4) (oi := { dst := some 130, op := Op.load 24 (Operand.tmp 129), type := 24, pos := "ticket.go:192", after := #[{ on := 3, ground := Ground.data }], guard := none }) (v := ?_) (ms := [6, 7, 8]) rfl (by kernel_rfl) (by kernel_rfl) (by kernel_rfl) (by kernel_rfl) (by kernel_rfl) (fun _ _ _ h => h) (Or.inl ⟨by rfl, ?_⟩) (by assumption) ?_
          rotate_left
          · intro w hSw; (try dsimp only at hSw); go_simp; try with_reducible rfl
          try simp only [Act.put, List.setIfInBounds_toArray, List.set_cons_zero, List.set_cons_succ]
          refine wpAnyG_takeU (i := 5) (oi := { dst := some 131, op := Op.move (Operand.tmp 6), type := 3, pos := "ticket.go:192", after := #[], guard := none }) (v := ?_) rfl (by kernel_rfl) (by kernel_rfl) (by kernel_rfl) (by decide) (fun _ _ _ h => h) (Or.inl ⟨by rfl, ?_⟩) (by first | exact .inl (by assumption) | exact .inr rfl) ?_
          rotate_left
          · intro w hSw; go_simp; try with_reducible rfl
          try simp only [Act.put, List.setIfInBounds_toArray, List.set_cons_zero, List.set_cons_succ]
          refine wpAnyG_takeU (i := 6) (oi := { dst := some 132, op := Op.indexAddr 24 (Operand.tmp 130) (Operand.tmp 131), type := 0, pos := "ticket.go:192", after := #[{ on := 4, ground := Ground.data }, { on := 5, ground := Ground.data }], guard := none }) (v := ?_) rfl (by kernel_rfl) (by kernel_rfl) (by kernel_rfl) (by decide) (fun _ _ _ h => h) (Or.inl ⟨by rfl, ?_⟩) (by first | exact .inl (by assumption) | exact .inr rfl) ?_
          rotate_left
          · intro w hSw; go_simp; try with_reducible rfl
          try simp only [Act.put, List.setIfInBounds_toArray, List.set_cons_zero, List.set_cons_succ]
          refine wpAnyG_takeU (i := 7) (oi := { dst := some 133, op := Op.fieldAddr 48 (Operand.tmp 132) 1, type := 0, pos := "ticket.go:192", after := #[{ on := 6, ground := Ground.data }], guard := none }) (v := ?_) rfl (by kernel_rfl) (by kernel_rfl) (by kernel_rfl) (by decide) (fun _ _ _ h => h) (Or.inl ⟨by rfl, ?_⟩) (by first | exact .inl (by assumption) | exact .inr rfl) ?_
          rotate_left
          · intro w hSw; go_simp; try with_reducible rfl
          try simp only [Act.put, List.setIfInBounds_toArray, List.set_cons_zero, List.set_cons_succ]
          refine wpAnyG_one (i := 8) (o := { dst := some 134, op := Op.call { callee := Callee.value (Operand.func 129), args := #[Operand.tmp 126, Operand.tmp 133], argTypes := #[109, 160] }, type := 0, pos := "ticket.go:192", after := #[{ on := 0, ground := Ground.data }, { on := 7, ground := Ground.data }], guard := none }) (by kernel_rfl) rfl (fun K hK => ?_)
          go_simp
          go_at_call 129
          refine (gmoney_any base br _ _ HA.out.i gx (j * 2 + 1) _ _ HCB.out (by decide) HgxB.out _ (mid_at HPL.out 1 rfl)).mono ?_
          rintro e wq ⟨rfl, hs⟩
          have HA : Hid (RAt w0 wq base br w.heap.size g (Tkt.xx2 sj) #[.int .u64 (rNumV st 8 : Int), .string ⟨(rBy (Tkt.q1 st) 6).toArray⟩, .int .i64 (rNumV (Tkt.q2 st) 4 : Int), .slice (some ⟨gc, 0, none⟩) ((rNumV (Tkt.q7 st) 1)) ((rNumV (Tkt.q7 st) 1)), .slice (some ⟨gx, 0, none⟩) ((rNumV (Tkt.q9 st) 1)) ((rNumV (Tkt.q9 st) 1)), .int .u64 (rNumV (Tkt.q3 st) 8 : Int), .int .u64 (rNumV (Tkt.q4 st) 8 : Int), .int .u64 (rNumV (Tkt.q5 st) 8 : Int), .int .i64 (IntKind.i64.wrap (rNumV (Tkt.q6 st) 8 : Int)), .int .i64 0, .slice none 0 0]) := Lib.hid (HA.out.step2 hs HgxR.out HgxN.out HgxA.out)
          have HCB : Hid (wq.heap[gx]? = some (.cells (mid pre [.int .i64 (rNumV sj 1 : Int), .int .i64 (IntKind.i64.wrap (rNumV (Tkt.xx1 sj) 8 : Int))] post) 48 (0, 0))) := Lib.hid (by have := hs.r; first | exact (mid_set_eq HPL.out 1 rfl rfl this))
          have Hgc := Lib.hid (hs.row Hgc.out Hgcgx.out (by decide))
          clear hs
          refine hK.out _ _ (.inr rfl) ?_
          clear hK K
          try simp only [Act.put, List.setIfInBounds_toArray, List.set_cons_zero, List.set_cons_succ]
          refine wpAnyG_done (by kernel_rfl) ?_ _
          clear hHeld
          go_wp2
          go_roundw
          case rel =>
            refine ⟨j + 1, by omega, by go_num, ?_, ?_, Hgc.out⟩
            · show RAt _ _ _ _ _ _ (Tkt.gXs (Tkt.itS Tkt.gXs j (Tkt.q10 st))) _; rw [HSJ.out]; exact HA.out
            · rw [HNX.out]; exact HCB.out
          case measure => simp [intOf]; omega
        · have hjn : j = (rNumV (Tkt.q9 st) 1) := by omega
          subst hjn
          have Hgx : Hid (wr.heap[gx]? = some (.cells ((encL Txx.cells (Tkt.itL Tkt.gX Tkt.gXs ((rNumV (Tkt.q9 st) 1)) (Tkt.q10 st))).toArray) 48 (0, 0))) := Lib.hid (by have := Hgx.out; rw [rowJ_all] at this; exact this)
          have HA : Hid (RAt w0 wr base br w.heap.size g (Tkt.q11 st) #[.int .u64 (rNumV st 8 : Int), .string ⟨(rBy (Tkt.q1 st) 6).toArray⟩, .int .i64 (rNumV (Tkt.q2 st) 4 : Int), .slice (some ⟨gc, 0, none⟩) ((rNumV (Tkt.q7 st) 1)) ((rNumV (Tkt.q7 st) 1)), .slice (some ⟨gx, 0, none⟩) ((rNumV (Tkt.q9 st) 1)) ((rNumV (Tkt.q9 st) 1)), .int .u64 (rNumV (Tkt.q3 st) 8 : Int), .int .u64 (rNumV (Tkt.q4 st) 8 : Int), .int .u64 (rNumV (Tkt.q5 st) 8 : Int), .int .i64 (IntKind.i64.wrap (rNumV (Tkt.q6 st) 8 : Int)), .int .i64 0, .slice none 0 0]) := Lib.hid HA.out
          go_wp2_with fail
          refine wp_region_G (C := fun W => W.cell? ⟨w.heap.size, 0, none⟩ = some (.pointer none) ∧ W.cell? ⟨w.heap.size, 1, none⟩ = some (.pointer (some ⟨br, 0, none⟩))) (s0 := 4) (by kernel_rfl) ?_
          have HA := Lib.hid HA.out.drew
          have Hgc := Lib.hid (row_drewT Hgc.out)
          have Hgx := Lib.hid (row_drewT Hgx.out)
          generalize wr.drew = wd at *
          have hHeld : (wd.cell? ⟨w.heap.size, 0, none⟩ = some (.pointer none) ∧ wd.cell? ⟨w.heap.size, 1, none⟩ = some (.pointer (some ⟨br, 0, none⟩))) := ⟨cell_of_row _ _ 0 _ _ _ HA.out.rr, cell_of_row _ _ 1 _ _ _ HA.out.rr⟩
          refine wpAnyG_takeM (i := 0) (oi := { dst := some 136, op := Op.load 109 (Operand.tmp 2), type := 109, pos := "ticket.go:194", after := #[], guard := none }) (v := ?_) (ms := [4]) rfl (by kernel_rfl) (by kernel_rfl) (by kernel_rfl) (by kernel_rfl) (by kernel_rfl) (fun _ _ _ h => h) (Or.inl ⟨by rfl, ?_⟩) (by assumption) ?_
          rotate_left
          · intro w hSw; (try dsimp only at hSw); go_simp; try with_reducible rfl
          try simp only [Act.put, List.setIfInBounds_toArray, List.set_cons_zero, List.set_cons_succ]
          refine wpAnyG_takeU (i := 1) (oi := { dst := some 137, op := Op.move (Operand.tmp 1), type := 111, pos := "ticket.go:194", after := #[], guard := none }) (v := ?_) rfl (by kernel_rfl) (by kernel_rfl) (by kernel_rfl) (by decide) (fun _ _ _ h => h) (Or.inl ⟨by rfl, ?_⟩) (by first | exact .inl (by assumption) | exact .inr rfl) ?_
          rotate_left
          · intro w hSw; go_simp; try with_reducible rfl
          try simp only [Act.put, List.setIfInBounds_toArray, List.set_cons_zero, List.set_cons_succ]
          refine wpAnyG_takeU (i := 2) (oi := { dst := some 138, op := Op.nilCheck (Operand.tmp 137), type := 0, pos := "ticket.go:194", after := #[{ on := 1, ground := Ground.data }], guard := none }) (v := ?_) rfl (by kernel_rfl) (by kernel_rfl) (by kernel_rfl) (by decide) (fun _ _ _ h => h) (Or.inl ⟨by rfl, ?_⟩) (by first | exact .inl (by assumption) | exact .inr rfl) ?_
          rotate_left
          · intro w hSw; go_simp; try with_reducible rfl
          try simp only [Act.put, List.setIfInBounds_toArray, List.set_cons_zero, List.set_cons_succ]
          refine wpAnyG_takeU (i := 3) (oi := { dst := some 139, op := Op.fieldAddr 27 (Operand.tmp 138) 9, type := 0, pos := "ticket.go:194", after := #[{ on := 2, ground := Ground.data }], guard := none }) (v := ?_) rfl (by kernel_rfl) (by kernel_rfl) (by kernel_rfl) (by decide) (fun _ _ _ h => h) (Or.inl ⟨by rfl, ?_⟩) (by first | exact .inl (by assumption) | exact .inr rfl) ?_
          rotate_left
          · intro w hSw; go_simp; try with_reducible rfl
          try simp only [Act.put, List.setIfInBounds_toArray, List.set_cons_zero, List.set_cons_succ]
          refine wpAnyG_one (i := 4) (o := { dst := some 140, op := Op.call { callee := Callee.value (Operand.func 128), args := #[Operand.tmp 136, Operand.tmp 139, Operand.const (Value.int IntKind.i64 1)], argTypes := #[109, 158, 3] }, type := 0, pos := "ticket.go:194", after := #[{ on := 0, ground := Ground.data }, { on := 3, ground := Ground.data }], guard := none }) (by kernel_rfl) rfl (fun K hK => ?_)
          go_simp
          go_at_call 128
          refine (gwhole_any base br _ 1 (by decide) _ HA.out.i g (9) _ _ HA.out.rg (by decide) HA.out.gb _ rfl).mono ?_
          rintro e wq ⟨rfl, hs⟩
          have HA : Hid (RAt w0 wq base br w.heap.size g (Tkt.q12 st) #[.int .u64 (rNumV st 8 : Int), .string ⟨(rBy (Tkt.q1 st) 6).toArray⟩, .int .i64 (rNumV (Tkt.q2 st) 4 : Int), .slice (some ⟨gc, 0, none⟩) ((rNumV (Tkt.q7 st) 1)) ((rNumV (Tkt.q7 st) 1)), .slice (some ⟨gx, 0, none⟩) ((rNumV (Tkt.q9 st) 1)) ((rNumV (Tkt.q9 st) 1)), .int .u64 (rNumV (Tkt.q3 st) 8 : Int), .int .u64 (rNumV (Tkt.q4 st) 8 : Int), .int .u64 (rNumV (Tkt.q5 st) 8 : Int), .int .i64 (IntKind.i64.wrap (rNumV (Tkt.q6 st) 8 : Int)), .int .i64 (rNumV (Tkt.q11 st) 1 : Int), .slice none 0 0]) := Lib.hid (HA.out.step hs)
          have Hgc := Lib.hid (hs.row Hgc.out HgcN.out (by decide))
          have Hgx := Lib.hid (hs.row Hgx.out HgxN.out (by decide))
          clear hs
          refine hK.out _ _ (.inr rfl) ?_
          clear hK K
          try simp only [Act.put, List.setIfInBounds_toArray, List.set_cons_zero, List.set_cons_succ]
          refine wpAnyG_done (by kernel_rfl) ?_ _
          clear hHeld
          go_wp2_with fail
          refine wp_region_G (C := fun W => W.cell? ⟨w.heap.size, 0, none⟩ = some (.pointer none) ∧ W.cell? ⟨w.heap.size, 1, none⟩ = some (.pointer (some ⟨br, 0, none⟩)) ∧ W.cell? ⟨g, 10, none⟩ = some (.slice none 0 0)) (s0 := 9) (by kernel_rfl) ?_
          have HA := Lib.hid HA.out.drew
          have Hgc := Lib.hid (row_drewT Hgc.out)
          have Hgx := Lib.hid (row_drewT Hgx.out)
          generalize wq.drew = wd at *
          have hHeld : (wd.cell? ⟨w.heap.size, 0, none⟩ = some (.pointer none) ∧ wd.cell? ⟨w.heap.size, 1, none⟩ = some (.pointer (some ⟨br, 0, none⟩)) ∧ wd.cell? ⟨g, 10, none⟩ = some (.slice none 0 0)) := ⟨cell_of_row _ _ 0 _ _ _ HA.out.rr, cell_of_row _ _ 1 _ _ _ HA.out.rr, cell_of_row _ _ 10 _ _ _ HA.out.rg⟩
          refine wpAnyG_takeU (i := 0) (oi := { dst := some 141, op := Op.move (Operand.tmp 1), type := 111, pos := "ticket.go:195", after := #[], guard := none }) (v := ?_) rfl (by kernel_rfl) (by kernel_rfl) (by kernel_rfl) (by decide) (fun _ _ _ h => h) (Or.inl ⟨by rfl, ?_⟩) (by first | exact .inl (by assumption) | exact .inr rfl) ?_
          rotate_left
          · intro w hSw; go_simp; try with_reducible rfl
          try simp only [Act.put, List.setIfInBounds_toArray, List.set_cons_zero, List.set_cons_succ]
          refine wpAnyG_takeM (i := 1) (oi := { dst := some 142, op := Op.load 109 (Operand.tmp 2), type := 109, pos := "ticket.go:195", after := #[], guard := none }) (v := ?_) (ms := [6, 7, 8, 9]) rfl (by kernel_rfl) (by kernel_rfl) (by kernel_rfl) (by kernel_rfl) (by kernel_rfl) (fun _ _ _ h => h) (Or.inl ⟨by rfl, ?_⟩) (by assumption) ?_
          rotate_left
          · intro w hSw; (try dsimp only at hSw); go_simp; try with_reducible rfl
          try simp only [Act.put, List.setIfInBounds_toArray, List.set_cons_zero, List.set_cons_succ]
          refine wpAnyG_takeU (i := 2) (oi := { dst := some 143, op := Op.move (Operand.tmp 1), type := 111, pos := "ticket.go:195", after := #[], guard := none }) (v := ?_) rfl (by kernel_rfl) (by kernel_rfl) (by kernel_rfl) (by decide) (fun _ _ _ h => h) (Or.inl ⟨by rfl, ?_⟩) (by first | exact .inl (by assumption) | exact .inr rfl) ?_
          rotate_left
          · intro w hSw; go_simp; try with_reducible rfl
          try simp only [Act.put, List.setIfInBounds_toArray, List.set_cons_zero, List.set_cons_succ]
          refine wpAnyG_takeU (i := 3) (oi := { dst := some 144, op := Op.nilCheck (Operand.tmp 143), type := 0, pos := "ticket.go:195", after := #[{ on := 2, ground := Ground.data }], guard := none }) (v := ?_) rfl (by kernel_rfl) (by kernel_rfl) (by kernel_rfl) (by decide) (fun _ _ _ h => h) (Or.inl ⟨by rfl, ?_⟩) (by first | exact .inl (by assumption) | exact .inr rfl) ?_
          rotate_left
          · intro w hSw; go_simp; try with_reducible rfl
          try simp only [Act.put, List.setIfInBounds_toArray, List.set_cons_zero, List.set_cons_succ]
          refine wpAnyG_takeU (i := 4) (oi := { dst := some 145, op := Op.fieldAddr 27 (Operand.tmp 144) 10, type := 0, pos := "ticket.go:195", after := #[{ on := 3, ground := Ground.data }], guard := none }) (v := ?_) rfl (by kernel_rfl) (by kernel_rfl) (by kernel_rfl) (by decide) (fun _ _ _ h => h) (Or.inl ⟨by rfl, ?_⟩) (by first | exact .inl (by assumption) | exact .inr rfl) ?_
          rotate_left
          · intro w hSw; go_simp; try with_reducible rfl
          try simp only [Act.put, List.setIfInBounds_toArray, List.set_cons_zero, List.set_cons_succ]
          refine wpAnyG_takeM (i := 5) (oi := { dst := some 146, op := Op.load 25 (Operand.tmp 145), type := 25, pos := "ticket.go:195", after := #[{ on := 4, ground := Ground.data }], guard := none }) (v := ?_) (ms := [6, 7, 8, 9]) rfl (by kernel_rfl) (by kernel_rfl) (by kernel_rfl) (by kernel_rfl) (by kernel_rfl) (fun _ _ _ h => h) (Or.inl ⟨by rfl, ?_⟩) (by assumption) ?_
          rotate_left
          · intro w hSw; (try dsimp only at hSw); go_simp; try with_reducible rfl
          try simp only [Act.put, List.setIfInBounds_toArray, List.set_cons_zero, List.set_cons_succ]
          refine wpAnyG_one (i := 6) (o := { dst := some 147, op := Op.call { callee := Callee.value (Operand.func 133), args := #[Operand.tmp 142, Operand.tmp 146], argTypes := #[109, 25] }, type := 25, pos := "ticket.go:195", after := #[{ on := 1, ground := Ground.data }, { on := 5, ground := Ground.data }], guard := none }) (by kernel_rfl) rfl (fun K hK => ?_)
          go_simp
          go_at_call 133
          refine (glistEv_any base br _ _ HA.out.i).mono ?_
          rintro e wq ⟨ge, rfl, hgl, hrl, hi, hbl, hk⟩
          have HA0 := HA
          have HA : Hid (RAt w0 wq base br w.heap.size g (Tkt.q13 st) #[.int .u64 (rNumV st 8 : Int), .string ⟨(rBy (Tkt.q1 st) 6).toArray⟩, .int .i64 (rNumV (Tkt.q2 st) 4 : Int), .slice (some ⟨gc, 0, none⟩) ((rNumV (Tkt.q7 st) 1)) ((rNumV (Tkt.q7 st) 1)), .slice (some ⟨gx, 0, none⟩) ((rNumV (Tkt.q9 st) 1)) ((rNumV (Tkt.q9 st) 1)), .int .u64 (rNumV (Tkt.q3 st) 8 : Int), .int .u64 (rNumV (Tkt.q4 st) 8 : Int), .int .u64 (rNumV (Tkt.q5 st) 8 : Int), .int .i64 (IntKind.i64.wrap (rNumV (Tkt.q6 st) 8 : Int)), .int .i64 (rNumV (Tkt.q11 st) 1 : Int), .slice none 0 0]) := Lib.hid (HA.out.keep hi hbl hk)
          have Hgc := Lib.hid (hk.row Hgc.out (by decide))
          have Hgx := Lib.hid (hk.row Hgx.out (by decide))
          have Hge := Lib.hid hrl
          have HGL0 := Lib.hid hgl
          have HgeN : Hid (ge ≠ g) := Lib.hid (row_neT hrl HA.out.rg (by decide))
          have HgeR : Hid (ge ≠ w.heap.size) := Lib.hid (row_neT hrl HA.out.rr (by decide))
          have HgeB : Hid (base ≤ ge) := Lib.hid (Nat.le_trans (Nat.le_trans HA0.out.i.lt.1 (Nat.le_of_lt HA0.out.i.lt.2)) hgl)
          have HgeA : Hid (w0.heap.size ≤ ge) := Lib.hid (Nat.le_trans HA0.out.k.size hgl)
          clear hi hbl hk hrl hgl HGL0
          refine hK.out _ _ (.inl ⟨cell_of_row _ _ 0 _ _ _ HA.out.rr, cell_of_row _ _ 1 _ _ _ HA.out.rr, cell_of_row _ _ 10 _ _ _ HA.out.rg⟩) ?_
          clear hK K
          try simp only [Act.put, List.setIfInBounds_toArray, List.set_cons_zero, List.set_cons_succ]
          have hHeld : (wq.cell? ⟨w.heap.size, 0, none⟩ = some (.pointer none) ∧ wq.cell? ⟨w.heap.size, 1, none⟩ = some (.pointer (some ⟨br, 0, none⟩)) ∧ wq.cell? ⟨g, 10, none⟩ = some (.slice none 0 0)) := ⟨cell_of_row _ _ 0 _ _ _ HA.out.rr, cell_of_row _ _ 1 _ _ _ HA.out.rr, cell_of_row _ _ 10 _ _ _ HA.out.rg⟩
          refine wpAnyG_takeU (i := 7) (oi := { dst := some 148, op := Op.nilCheck (Operand.tmp 141), type := 0, pos := "ticket.go:195", after := #[{ on := 0, ground := Ground.data }, { on := 0, ground := Ground.phase }, { on := 1, ground := Ground.phase }, { on := 2, ground := Ground.phase }, { on := 3, ground := Ground.phase }, { on := 4, ground := Ground.phase }, { on := 5, ground := Ground.phase }, { on := 6, ground := Ground.phase }], guard := none }) (v := ?_) rfl (by kernel_rfl) (by kernel_rfl) (by kernel_rfl) (by decide) (fun _ _ _ h => h) (Or.inl ⟨by rfl, ?_⟩) (by first | exact .inl (by assumption) | exact .inr rfl) ?_
          rotate_left
          · intro w hSw; go_simp; try with_reducible rfl
          try simp only [Act.put, List.setIfInBounds_toArray, List.set_cons_zero, List.set_cons_succ]
          refine wpAnyG_takeU (i := 8) (oi := { dst := some 149, op := Op.fieldAddr 27 (Operand.tmp 148) 10, type := 0, pos := "ticket.go:195", after := #[{ on := 7, ground := Ground.data }, { on := 0, ground := Ground.phase }, { on := 1, ground := Ground.phase }, { on := 2, ground := Ground.phase }, { on := 3, ground := Ground.phase }, { on := 4, ground := Ground.phase }, { on := 5, ground := Ground.phase }, { on := 6, ground := Ground.phase }], guard := none }) (v := ?_) rfl (by kernel_rfl) (by kernel_rfl) (by kernel_rfl) (by decide) (fun _ _ _ h => h) (Or.inl ⟨by rfl, ?_⟩) (by first | exact .inl (by assumption) | exact .inr rfl) ?_
          rotate_left
          · intro w hSw; go_simp; try with_reducible rfl
          try simp only [Act.put, List.setIfInBounds_toArray, List.set_cons_zero, List.set_cons_succ]
          refine wpAnyG_one (i := 9) (o := { dst := none, op := Op.store 25 (Operand.tmp 149) (Operand.tmp 147), type := 0, pos := "ticket.go:195", after := #[{ on := 8, ground := Ground.data }, { on := 6, ground := Ground.data }, { on := 6, ground := Ground.chain }, { on := 0, ground := Ground.phase }, { on := 1, ground := Ground.phase }, { on := 2, ground := Ground.phase }, { on := 3, ground := Ground.phase }, { on := 4, ground := Ground.phase }, { on := 5, ground := Ground.phase }, { on := 6, ground := Ground.phase }], guard := none }) (by kernel_rfl) rfl (fun K hK => ?_)
          have kc := fun j => cell_of_row wq g j _ _ _ HA.out.rg
          have kf := fun j => frozen_of_row wq g j _ _ HA.out.rg
          go_simp
          refine hK.out _ _ (.inr rfl) ?_
          clear hK K
          try simp only [Act.put, List.setIfInBounds_toArray, List.set_cons_zero, List.set_cons_succ]
          refine wpAnyG_done (by kernel_rfl) ?_ _
          have HA : Hid (RAt w0 (wq.setCell ⟨g, 10, none⟩ (.slice (some ⟨ge, 0, none⟩) ((rNumV (Tkt.q12 st) 1)) ((rNumV (Tkt.q12 st) 1)))) base br w.heap.size g (Tkt.q13 st) #[.int .u64 (rNumV st 8 : Int), .string ⟨(rBy (Tkt.q1 st) 6).toArray⟩, .int .i64 (rNumV (Tkt.q2 st) 4 : Int), .slice (some ⟨gc, 0, none⟩) ((rNumV (Tkt.q7 st) 1)) ((rNumV (Tkt.q7 st) 1)), .slice (some ⟨gx, 0, none⟩) ((rNumV (Tkt.q9 st) 1)) ((rNumV (Tkt.q9 st) 1)), .int .u64 (rNumV (Tkt.q3 st) 8 : Int), .int .u64 (rNumV (Tkt.q4 st) 8 : Int), .int .u64 (rNumV (Tkt.q5 st) 8 : Int), .int .i64 (IntKind.i64.wrap (rNumV (Tkt.q6 st) 8 : Int)), .int .i64 (rNumV (Tkt.q11 st) 1 : Int), .slice (some ⟨ge, 0, none⟩) ((rNumV (Tkt.q12 st) 1)) ((rNumV (Tkt.q12 st) 1))]) := Lib.hid (HA.out.set 10 _)
          have Hgc := Lib.hid (row_set Hgc.out HgcN.out 10 (.slice (some ⟨ge, 0, none⟩) ((rNumV (Tkt.q12 st) 1)) ((rNumV (Tkt.q12 st) 1))))
          have Hgx := Lib.hid (row_set Hgx.out HgxN.out 10 (.slice (some ⟨ge, 0, none⟩) ((rNumV (Tkt.q12 st) 1)) ((rNumV (Tkt.q12 st) 1))))
          have Hge := Lib.hid (row_set Hge.out HgeN.out 10 (.slice (some ⟨ge, 0, none⟩) ((rNumV (Tkt.q12 st) 1)) ((rNumV (Tkt.q12 st) 1))))
          clear hHeld kc kf HA0
          generalize wq.setCell ⟨g, 10, none⟩ (.slice (some ⟨ge, 0, none⟩) ((rNumV (Tkt.q12 st) 1)) ((rNumV (Tkt.q12 st) 1))) = wq2 at *
          have Hgcge : Hid (gc ≠ ge) := Lib.hid (row_neT Hgc.out Hge.out (by decide))
          have Hgxge : Hid (gx ≠ ge) := Lib.hid (row_neT Hgx.out Hge.out (by decide))
          have Hge : Hid (wq2.heap[ge]? = some (.cells (rowJ Evt.cells ⟨0, 0, 0, 0⟩ ((rNumV (Tkt.q12 st) 1)) Tkt.gE Tkt.gEs (Tkt.q13 st) 0) 46 (0, 0))) := Lib.hid (by rw [rowJ_zero]; exact Hge.out)
          have hNb : (rNumV (Tkt.q12 st) 1) < 256 := rNumV_lt _ 1
          have HNB := Lib.hid hNb
          have hcg := fun j => cell_of_row wq2 g j _ _ _ HA.out.rg
          go_wp2_with fail
          clear hcg hNb
          go_loopw [155] (fun i wr => ∃ j : Nat, j ≤ (rNumV (Tkt.q12 st) 1) ∧ i = .int .i64 j ∧ RAt w0 wr base br w.heap.size g (Tkt.itS Tkt.gEs j (Tkt.q13 st)) #[.int .u64 (rNumV st 8 : Int), .string ⟨(rBy (Tkt.q1 st) 6).toArray⟩, .int .i64 (rNumV (Tkt.q2 st) 4 : Int), .slice (some ⟨gc, 0, none⟩) ((rNumV (Tkt.q7 st) 1)) ((rNumV (Tkt.q7 st) 1)), .slice (some ⟨gx, 0, none⟩) ((rNumV (Tkt.q9 st) 1)) ((rNumV (Tkt.q9 st) 1)), .int .u64 (rNumV (Tkt.q3 st) 8 : Int), .int .u64 (rNumV (Tkt.q4 st) 8 : Int), .int .u64 (rNumV (Tkt.q5 st) 8 : Int), .int .i64 (IntKind.i64.wrap (rNumV (Tkt.q6 st) 8 : Int)), .int .i64 (rNumV (Tkt.q11 st) 1 : Int), .slice (some ⟨ge, 0, none⟩) ((rNumV (Tkt.q12 st) 1)) ((rNumV (Tkt.q12 st) 1))] ∧ wr.heap[ge]? = some (.cells (rowJ Evt.cells ⟨0, 0, 0, 0⟩ ((rNumV (Tkt.q12 st) 1)) Tkt.gE Tkt.gEs (Tkt.q13 st) j) 46 (0, 0)) ∧ wr.heap[gc]? = some (.cells ((encL Cpn.cells (Tkt.itL Tkt.gC Tkt.gCs ((rNumV (Tkt.q7 st) 1)) (Tkt.q8 st))).toArray) 44 (0, 0)) ∧ wr.heap[gx]? = some (.cells ((encL Txx.cells (Tkt.itL Tkt.gX Tkt.gXs ((rNumV (Tkt.q9 st) 1)) (Tkt.q10 st))).toArray) 48 (0, 0))) (fun i _ => (rNumV (Tkt.q12 st) 1) - (intOf i).toNat)
          case atStart => exact ⟨0, Nat.zero_le _, rfl, HA.out, Hge.out, Hgc.out, Hgx.out⟩
          case round =>
            obtain ⟨j, hj, rfl, hrel, hr0, hrgc, hrgx⟩ := hrel
            have hNb := HNB.out
            have HA := Lib.hid hrel
            have Hge := Lib.hid hr0
            have Hgc := Lib.hid hrgc
            have Hgx := Lib.hid hrgx
            clear hrel hr0 hrgc hrgx
            by_cases hlt : j < (rNumV (Tkt.q12 st) 1)
            · have HLT := Lib.hid hlt
              obtain ⟨pre, hpre⟩ : ∃ p, encL Evt.cells (Tkt.itL Tkt.gE Tkt.gEs j (Tkt.q13 st)) = p := ⟨_, rfl⟩
              obtain ⟨post, hpost⟩ : ∃ p, encL Evt.cells (List.replicate ((rNumV (Tkt.q12 st) 1) - j - 1) ⟨0, 0, 0, 0⟩) = p := ⟨_, rfl⟩
              have hpl : pre.length = j * 4 := by rw [← hpre, encL_length Evt.cells_length, Tkt.itL_length]
              have HCB : Hid (wr.heap[ge]? = some (.cells (mid pre [.int .i64 0, .int .i64 0, .int .i64 0, .int .i64 0] post) 46 (0, 0))) := Lib.hid (by have := Hge.out; rw [rowJ_mid hlt, hpre, hpost] at this; exact this)
              have HNX : Hid (rowJ Evt.cells ⟨0, 0, 0, 0⟩ ((rNumV (Tkt.q12 st) 1)) Tkt.gE Tkt.gEs (Tkt.q13 st) (j + 1) = mid pre (Tkt.gE (Tkt.itS Tkt.gEs j (Tkt.q13 st))).cells post) := Lib.hid (by rw [rowJ_next hlt, hpre, hpost])
              have HPL := Lib.hid hpl
              obtain ⟨sj, hsj⟩ : ∃ s, Tkt.itS Tkt.gEs j (Tkt.q13 st) = s := ⟨_, rfl⟩
              rw [hsj] at HA HNX
              have HSJ := Lib.hid hsj
              clear hpre hpost hpl hsj
              have hcg := fun j => cell_of_row wr g j _ _ _ HA.out.rg
              go_wp2_with fail
              clear hcg
              refine wp_region_G (C := fun W => W.cell? ⟨w.heap.size, 0, none⟩ = some (.pointer none) ∧ W.cell? ⟨w.heap.size, 1, none⟩ = some (.pointer (some ⟨br, 0, none⟩))) (s0 := 4) (by kernel_rfl) ?_
              have HA := Lib.hid HA.out.drew
              have Hgc := Lib.hid (row_drewT Hgc.out)
              have Hgx := Lib.hid (row_drewT Hgx.out)
              have HCB := Lib.hid (row_drewT HCB.out)
              generalize wr.drew = wd at *
              have hHeld : (wd.cell? ⟨w.heap.size, 0, none⟩ = some (.pointer none) ∧ wd.cell? ⟨w.heap.size, 1, none⟩ = some (.pointer (some ⟨br, 0, none⟩))) := ⟨cell_of_row _ _ 0 _ _ _ HA.out.rr, cell_of_row _ _ 1 _ _ _ HA.out.rr⟩
              refine wpAnyG_takeM (i := 0) (oi := { dst := some 164, op := Op.load 109 (Operand.tmp 2), type := 109, pos := "ticket.go:198", after := #[], guard := none }) (v := ?_) (ms := [4]) rfl (by kernel_rfl) (by kernel_rfl) (by kernel_rfl) (by kernel_rfl) (by kernel_rfl) (fun _ _ _ h => h) (Or.inl ⟨by rfl, ?_⟩) (by assumption) ?_
              rotate_left
              · intro w hSw; (try dsimp only at hSw); go_simp; try with_reducible rfl
              try simp only [Act.put, List.setIfInBounds_toArray, List.set_cons_zero, List.set_cons_succ]
              refine wpAnyG_takeU (i := 1) (oi := { dst := some 165, op := Op.move (Operand.tmp 8), type := 166, pos := "ticket.go:198", after := #[], guard := none }) (v := ?_) rfl (by kernel_rfl) (by kernel_rfl) (by kernel_rfl) (by decide) (fun _ _ _ h => h) (Or.inl ⟨by rfl, ?_⟩) (by first | exact .inl (by assumption) | exact .inr rfl) ?_
              rotate_left
              · intro w hSw; go_simp; try with_reducible rfl
              try simp only [Act.put, List.setIfInBounds_toArray, List.set_cons_zero, List.set_cons_succ]
              refine wpAnyG_takeU (i := 2) (oi := { dst := some 166, op := Op.nilCheck (Operand.tmp 165), type := 0, pos := "ticket.go:198", after := #[{ on := 1, ground := Ground.data }], guard := none }) (v := ?_) rfl (by kernel_rfl) (by kernel_rfl) (by kernel_rfl) (by decide) (fun _ _ _ h => h) (Or.inl ⟨by rfl, ?_⟩) (by first | exact .inl (by assumption) | exact .inr rfl) ?_
              rotate_left
              · intro w hSw; go_simp; try with_reducible rfl
              try simp only [Act.put, List.setIfInBounds_toArray, List.set_cons_zero, List.set_cons_succ]
              refine wpAnyG_takeU (i := 3) (oi := { dst := some 167, op := Op.fieldAddr 46 (Operand.tmp 166) 0, type := 0, pos := "ticket.go:198", after := #[{ on := 2, ground := Ground.data }], guard := none }) (v := ?_) rfl (by kernel_rfl) (by kernel_rfl) (by kernel_rfl) (by decide) (fun _ _ _ h => h) (Or.inl ⟨by rfl, ?_⟩) (by first | exact .inl (by assumption) | exact .inr rfl) ?_
              rotate_left
              · intro w hSw; go_simp; try with_reducible rfl
              try simp only [Act.put, List.setIfInBounds_toArray, List.set_cons_zero, List.set_cons_succ]
              refine wpAnyG_one (i := 4) (o := { dst := some 168, op := Op.call { callee := Callee.value (Operand.func 128), args := #[Operand.tmp 164, Operand.tmp 167, Operand.const (Value.int IntKind.i64 4)], argTypes := #[109, 158, 3] }, type := 0, pos := "ticket.go:198", after := #[{ on := 0, ground := Ground.data }, { on := 3, ground := Ground.data }], guard := none }) (by kernel_rfl) rfl (fun K hK => ?_)
              go_simp
              go_at_call 128
              refine (gwhole_any base br _ 4 (by decide) _ HA.out.i ge (j * 4) _ _ HCB.out (by decide) HgeB.out _ (mid_at HPL.out 0 rfl)).mono ?_
              rintro e wq ⟨rfl, hs⟩
              have HA : Hid (RAt w0 wq base br w.heap.size g (Tkt.ee1 sj) #[.int .u64 (rNumV st 8 : Int), .string ⟨(rBy (Tkt.q1 st) 6).toArray⟩, .int .i64 (rNumV (Tkt.q2 st) 4 : Int), .slice (some ⟨gc, 0, none⟩) ((rNumV (Tkt.q7 st) 1)) ((rNumV (Tkt.q7 st) 1)), .slice (some ⟨gx, 0, none⟩) ((rNumV (Tkt.q9 st) 1)) ((rNumV (Tkt.q9 st) 1)), .int .u64 (rNumV (Tkt.q3 st) 8 : Int), .int .u64 (rNumV (Tkt.q4 st) 8 : Int), .int .u64 (rNumV (Tkt.q5 st) 8 : Int), .int .i64 (IntKind.i64.wrap (rNumV (Tkt.q6 st) 8 : Int)), .int .i64 (rNumV (Tkt.q11 st) 1 : Int), .slice (some ⟨ge, 0, none⟩) ((rNumV (Tkt.q12 st) 1)) ((rNumV (Tkt.q12 st) 1))]) := Lib.hid (HA.out.step2 hs HgeR.out HgeN.out HgeA.out)
              have HCB : Hid (wq.heap[ge]? = some (.cells (mid pre [.int .i64 (rNumV sj 4 : Int), .int .i64 0, .int .i64 0, .int .i64 0] post) 46 (0, 0))) := Lib.hid (by have := hs.r; first | exact (mid_set_eq HPL.out 0 rfl rfl this))
              have Hgc := Lib.hid (hs.row Hgc.out Hgcge.out (by decide))
              have Hgx := Lib.hid (hs.row Hgx.out Hgxge.out (by decide))
              clear hs
              refine hK.out _ _ (.inr rfl) ?_
              clear hK K
              try simp only [Act.put, List.setIfInBounds_toArray, List.set_cons_zero, List.set_cons_succ]
              refine wpAnyG_done (by kernel_rfl) ?_ _
              clear hHeld
              go_wp2_with fail
              refine wp_region_G (C := fun W => W.cell? ⟨w.heap.size, 0, none⟩ = some (.pointer none) ∧ W.cell? ⟨w.heap.size, 1, none⟩ = some (.pointer (some ⟨br, 0, none⟩))) (s0 := 4) (by kernel_rfl) ?_
              have HA := Lib.hid HA.out.drew
              have Hgc := Lib.hid (row_drewT Hgc.out)
              have Hgx := Lib.hid (row_drewT Hgx.out)
              have HCB := Lib.hid (row_drewT HCB.out)
              generalize wq.drew = wd at *
              have hHeld : (wd.cell? ⟨w.heap.size, 0, none⟩ = some (.pointer none) ∧ wd.cell? ⟨w.heap.size, 1, none⟩ = some (.pointer (some ⟨br, 0, none⟩))) := ⟨cell_of_row _ _ 0 _ _ _ HA.out.rr, cell_of_row _ _ 1 _ _ _ HA.out.rr⟩
              refine wpAnyG_takeM (i := 0) (oi := { dst := some 169, op := Op.load 109 (Operand.tmp 2), type := 109, pos := "ticket.go:199", after := #[], guard := none }) (v := ?_) (ms := [4]) rfl (by kernel_rfl) (by kernel_rfl) (by kernel_rfl) (by kernel_rfl) (by kernel_rfl) (fun _ _ _ h => h) (Or.inl ⟨by rfl, ?_⟩) (by assumption) ?_
              rotate_left
              · intro w hSw; (try dsimp only at hSw); go_simp; try with_reducible rfl
              try simp only [Act.put, List.setIfInBounds_toArray, List.set_cons_zero, List.set_cons_succ]
              refine wpAnyG_takeU (i := 1) (oi := { dst := some 170, op := Op.move (Operand.tmp 8), type := 166, pos := "ticket.go:199", after := #[], guard := none }) (v := ?_) rfl (by kernel_rfl) (by kernel_rfl) (by kernel_rfl) (by decide) (fun _ _ _ h => h) (Or.inl ⟨by rfl, ?_⟩) (by first | exact .inl (by assumption) | exact .inr rfl) ?_
              rotate_left
              · intro w hSw; go_simp; try with_reducible rfl
              try simp only [Act.put, List.setIfInBounds_toArray, List.set_cons_zero, List.set_cons_succ]
              refine wpAnyG_takeU (i := 2) (oi := { dst := some 171, op := Op.nilCheck (Operand.tmp 170), type := 0, pos := "ticket.go:199", after := #[{ on := 1, ground := Ground.data }], guard := none }) (v := ?_) rfl (by kernel_rfl) (by kernel_rfl) (by kernel_rfl) (by decide) (fun _ _ _ h => h) (Or.inl ⟨by rfl, ?_⟩) (by first | exact .inl (by assumption) | exact .inr rfl) ?_
              rotate_left
              · intro w hSw; go_simp; try with_reducible rfl
              try simp only [Act.put, List.setIfInBounds_toArray, List.set_cons_zero, List.set_cons_succ]
              refine wpAnyG_takeU (i := 3) (oi := { dst := some 172, op := Op.fieldAddr 46 (Operand.tmp 171) 1, type := 0, pos := "ticket.go:199", after := #[{ on := 2, ground := Ground.data }], guard := none }) (v := ?_) rfl (by kernel_rfl) (by kernel_rfl) (by kernel_rfl) (by decide) (fun _ _ _ h => h) (Or.inl ⟨by rfl, ?_⟩) (by first | exact .inl (by assumption) | exact .inr rfl) ?_
              rotate_left
              · intro w hSw; go_simp; try with_reducible rfl
              try simp only [Act.put, List.setIfInBounds_toArray, List.set_cons_zero, List.set_cons_succ]
              refine wpAnyG_one (i := 4) (o := { dst := some 173, op := Op.call { callee := Callee.value (Operand.func 128), args := #[Operand.tmp 169, Operand.tmp 172, Operand.const (Value.int IntKind.i64 1)], argTypes := #[109, 158, 3] }, type := 0, pos := "ticket.go:199", after := #[{ on := 0, ground := Ground.data }, { on := 3, ground := Ground.data }], guard := none }) (by kernel_rfl) rfl (fun K hK => ?_)
              go_simp
              go_at_call 128
              refine (gwhole_any base br _ 1 (by decide) _ HA.out.i ge (j * 4 + 1) _ _ HCB.out (by decide) HgeB.out _ (mid_at HPL.out 1 rfl)).mono ?_
              rintro e wq ⟨rfl, hs⟩
              have HA : Hid (RAt w0 wq base br w.heap.size g (Tkt.ee2 sj) #[.int .u64 (rNumV st 8 : Int), .string ⟨(rBy (Tkt.q1 st) 6).toArray⟩, .int .i64 (rNumV (Tkt.q2 st) 4 : Int), .slice (some ⟨gc, 0, none⟩) ((rNumV (Tkt.q7 st) 1)) ((rNumV (Tkt.q7 st) 1)), .slice (some ⟨gx, 0, none⟩) ((rNumV (Tkt.q9 st) 1)) ((rNumV (Tkt.q9 st) 1)), .int .u64 (rNumV (Tkt.q3 st) 8 : Int), .int .u64 (rNumV (Tkt.q4 st) 8 : Int), .int .u64 (rNumV (Tkt.q5 st) 8 : Int), .int .i64 (IntKind.i64.wrap (rNumV (Tkt.q6 st) 8 : Int)), .int .i64 (rNumV (Tkt.q11 st) 1 : Int), .slice (some ⟨ge, 0, none⟩) ((rNumV (Tkt.q12 st) 1)) ((rNumV (Tkt.q12 st) 1))]) := Lib.hid (HA.out.step2 hs HgeR.out HgeN.out HgeA.out)
              have HCB : Hid (wq.heap[ge]? = some (.cells (mid pre [.int .i64 (rNumV sj 4 : Int), .int .i64 (rNumV (Tkt.ee1 sj) 1 : Int), .int .i64 0, .int .i64 0] post) 46 (0, 0))) := Lib.hid (by have := hs.r; first | exact (mid_set_eq HPL.out 1 rfl rfl this))
              have Hgc := Lib.hid (hs.row Hgc.out Hgcge.out (by decide))
              have Hgx := Lib.hid (hs.row Hgx.out Hgxge.out (by decide))
              clear hs
              refine hK.out _ _ (.inr rfl) ?_
              clear hK K
              try simp only [Act.put, List.setIfInBounds_toArray, List.set_cons_zero, List.set_cons_succ]
              refine wpAnyG_done (by kernel_rfl) ?_ _
              clear hHeld
              go_wp2_with fail
              refine wp_region_G (C := fun W => W.cell? ⟨w.heap.size, 0, none⟩ = some (.pointer none) ∧ W.cell? ⟨w.heap.size, 1, none⟩ = some (.pointer (some ⟨br, 0, none⟩))) (s0 := 4) (by kernel_rfl) ?_
              have HA := Lib.hid HA.out.drew
              have Hgc := Lib.hid (row_drewT Hgc.out)
              have Hgx := Lib.hid (row_drewT Hgx.out)
              have HCB := Lib.hid (row_drewT HCB.out)
              generalize wq.drew = wd at *
              have hHeld : (wd.cell? ⟨w.heap.size, 0, none⟩ = some (.pointer none) ∧ wd.cell? ⟨w.heap.size, 1, none⟩ = some (.pointer (some ⟨br, 0, none⟩))) := ⟨cell_of_row _ _ 0 _ _ _ HA.out.rr, cell_of_row _ _ 1 _ _ _ HA.out.rr⟩
              refine wpAnyG_takeM (i := 0) (oi := { dst := some 174, op := Op.load 109 (Operand.tmp 2), type := 109, pos := "ticket.go:200", after := #[], guard := none }) (v := ?_) (ms := [4]) rfl (by kernel_rfl) (by kernel_rfl) (by kernel_rfl) (by kernel_rfl) (by kernel_rfl) (fun _ _ _ h => h) (Or.inl ⟨by rfl, ?_⟩) (by assumption) ?_
              rotate_left
              · intro w hSw; (try dsimp only at hSw); go_simp; try with_reducible rfl
              try simp only [Act.put, List.setIfInBounds_toArray, List.set_cons_zero, List.set_cons_succ]
              refine wpAnyG_takeU (i := 1) (oi := { dst := some 175, op := Op.move (Operand.tmp 8), type := 166, pos := "ticket.go:200", after := #[], guard := none }) (v := ?_) rfl (by kernel_rfl) (by kernel_rfl) (by kernel_rfl) (by decide) (fun _ _ _ h => h) (Or.inl ⟨by rfl, ?_⟩) (by first | exact .inl (by assumption) | exact .inr rfl) ?_
              rotate_left
              · intro w hSw; go_simp; try with_reducible rfl
              try simp only [Act.put, List.setIfInBounds_toArray, List.set_cons_zero, List.set_cons_succ]
              refine wpAnyG_takeU (i := 2) (oi := { dst := some 176, op := Op.nilCheck (Operand.tmp 175), type := 0, pos := "ticket.go:200", after := #[{ on := 1, ground := Ground.data }], guard := none }) (v := ?_) rfl (by kernel_rfl) (by kernel_rfl) (by kernel_rfl) (by decide) (fun _ _ _ h => h) (Or.inl ⟨by rfl, ?_⟩) (by first | exact .inl (by assumption) | exact .inr rfl) ?_
              rotate_left
              · intro w hSw; go_simp; try with_reducible rfl
              try simp only [Act.put, List.setIfInBounds_toArray, List.set_cons_zero, List.set_cons_succ]
              refine wpAnyG_takeU (i := 3) (oi := { dst := some 177, op := Op.fieldAddr 46 (Operand.tmp 176) 2, type := 0, pos := "ticket.go:200", after := #[{ on := 2, ground := Ground.data }], guard := none }) (v := ?_) rfl (by kernel_rfl) (by kernel_rfl) (by kernel_rfl) (by decide) (fun _ _ _ h => h) (Or.inl ⟨by rfl, ?_⟩) (by first | exact .inl (by assumption) | exact .inr rfl) ?_
              rotate_left
              · intro w hSw; go_simp; try with_reducible rfl
              try simp only [Act.put, List.setIfInBounds_toArray, List.set_cons_zero, List.set_cons_succ]
              refine wpAnyG_one (i := 4) (o := { dst := some 178, op := Op.call { callee := Callee.value (Operand.func 131), args := #[Operand.tmp 174, Operand.tmp 177], argTypes := #[109, 163] }, type := 0, pos := "ticket.go:200", after := #[{ on := 0, ground := Ground.data }, { on := 3, ground := Ground.data }], guard := none }) (by kernel_rfl) rfl (fun K hK => ?_)
              go_simp
              go_at_call 131
              refine (gstatus_any base br _ _ HA.out.i ge (j * 4 + 2) _ _ HCB.out (by decide) HgeB.out _ (mid_at HPL.out 2 rfl)).mono ?_
              rintro e wq ⟨rfl, hs⟩
              have HA : Hid (RAt w0 wq base br w.heap.size g (Tkt.ee3 sj) #[.int .u64 (rNumV st 8 : Int), .string ⟨(rBy (Tkt.q1 st) 6).toArray⟩, .int .i64 (rNumV (Tkt.q2 st) 4 : Int), .slice (some ⟨gc, 0, none⟩) ((rNumV (Tkt.q7 st) 1)) ((rNumV (Tkt.q7 st) 1)), .slice (some ⟨gx, 0, none⟩) ((rNumV (Tkt.q9 st) 1)) ((rNumV (Tkt.q9 st) 1)), .int .u64 (rNumV (Tkt.q3 st) 8 : Int), .int .u64 (rNumV (Tkt.q4 st) 8 : Int), .int .u64 (rNumV (Tkt.q5 st) 8 : Int), .int .i64 (IntKind.i64.wrap (rNumV (Tkt.q6 st) 8 : Int)), .int .i64 (rNumV (Tkt.q11 st) 1 : Int), .slice (some ⟨ge, 0, none⟩) ((rNumV (Tkt.q12 st) 1)) ((rNumV (Tkt.q12 st) 1))]) := Lib.hid (HA.out.step2 hs HgeR.out HgeN.out HgeA.out)
              have HCB : Hid (wq.heap[ge]? = some (.cells (mid pre [.int .i64 (rNumV sj 4 : Int), .int .i64 (rNumV (Tkt.ee1 sj) 1 : Int), .int .i64 (rNumV (Tkt.ee2 sj) 1 : Int), .int .i64 0] post) 46 (0, 0))) := Lib.hid (by have := hs.r; first | exact (mid_set_eq HPL.out 2 rfl rfl this))
              have Hgc := Lib.hid (hs.row Hgc.out Hgcge.out (by decide))
              have Hgx := Lib.hid (hs.row Hgx.out Hgxge.out (by decide))
              clear hs
              refine hK.out _ _ (.inr rfl) ?_
              clear hK K
              try simp only [Act.put, List.setIfInBounds_toArray, List.set_cons_zero, List.set_cons_succ]
              refine wpAnyG_done (by kernel_rfl) ?_ _
              clear hHeld
              go_wp2_with fail
              refine wp_region_G (C := fun W => W.cell? ⟨w.heap.size, 0, none⟩ = some (.pointer none) ∧ W.cell? ⟨w.heap.size, 1, none⟩ = some (.pointer (some ⟨br, 0, none⟩))) (s0 := 4) (by kernel_rfl) ?_
              have HA := Lib.hid HA.out.drew
              have Hgc := Lib.hid (row_drewT Hgc.out)
              have Hgx := Lib.hid (row_drewT Hgx.out)
              have HCB := Lib.hid (row_drewT HCB.out)
              generalize wq.drew = wd at *
              have hHeld : (wd.cell? ⟨w.heap.size, 0, none⟩ = some (.pointer none) ∧ wd.cell? ⟨w.heap.size, 1, none⟩ = some (.pointer (some ⟨br, 0, none⟩))) := ⟨cell_of_row _ _ 0 _ _ _ HA.out.rr, cell_of_row _ _ 1 _ _ _ HA.out.rr⟩
              refine wpAnyG_takeM (i := 0) (oi := { dst := some 179, op := Op.load 109 (Operand.tmp 2), type := 109, pos := "ticket.go:201", after := #[], guard := none }) (v := ?_) (ms := [4]) rfl (by kernel_rfl) (by kernel_rfl) (by kernel_rfl) (by kernel_rfl) (by kernel_rfl) (fun _ _ _ h => h) (Or.inl ⟨by rfl, ?_⟩) (by assumption) ?_
              rotate_left
              · intro w hSw; (try dsimp only at hSw); go_simp; try with_reducible rfl
              try simp only [Act.put, List.setIfInBounds_toArray, List.set_cons_zero, List.set_cons_succ]
              refine wpAnyG_takeU (i := 1) (oi := { dst := some 180, op := Op.move (Operand.tmp 8), type := 166, pos := "ticket.go:201", after := #[], guard := none }) (v := ?_) rfl (by kernel_rfl) (by kernel_rfl) (by kernel_rfl) (by decide) (fun _ _ _ h => h) (Or.inl ⟨by rfl, ?_⟩) (by first | exact .inl (by assumption) | exact .inr rfl) ?_
              rotate_left
              · intro w hSw; go_simp; try with_reducible rfl
              try simp only [Act.put, List.setIfInBounds_toArray, List.set_cons_zero, List.set_cons_succ]
              refine wpAnyG_takeU (i := 2) (oi := { dst := some 181, op := Op.nilCheck (Operand.tmp 180), type := 0, pos := "ticket.go:201", after := #[{ on := 1, ground := Ground.data }], guard := none }) (v := ?_) rfl (by kernel_rfl) (by kernel_rfl) (by kernel_rfl) (by decide) (fun _ _ _ h => h) (Or.inl ⟨by rfl, ?_⟩) (by first | exact .inl (by assumption) | exact .inr rfl) ?_
              rotate_left
              · intro w hSw; go_simp; try with_reducible rfl
              try simp only [Act.put, List.setIfInBounds_toArray, List.set_cons_zero, List.set_cons_succ]
              refine wpAnyG_takeU (i := 3) (oi := { dst := some 182, op := Op.fieldAddr 46 (Operand.tmp 181) 3, type := 0, pos := "ticket.go:201", after := #[{ on := 2, ground := Ground.data }], guard := none }) (v := ?_) rfl (by kernel_rfl) (by kernel_rfl) (by kernel_rfl) (by decide) (fun _ _ _ h => h) (Or.inl ⟨by rfl, ?_⟩) (by first | exact .inl (by assumption) | exact .inr rfl) ?_
              rotate_left
              · intro w hSw; go_simp; try with_reducible rfl
              try simp only [Act.put, List.setIfInBounds_toArray, List.set_cons_zero, List.set_cons_succ]
              refine wpAnyG_one (i := 4) (o := { dst := some 183, op := Op.call { callee := Callee.value (Operand.func 131), args := #[Operand.tmp 179, Operand.tmp 182], argTypes := #[109, 163] }, type := 0, pos := "ticket.go:201", after := #[{ on := 0, ground := Ground.data }, { on := 3, ground := Ground.data }], guard := none }) (by kernel_rfl) rfl (fun K hK => ?_)
              go_simp
              go_at_call 131
              refine (gstatus_any base br _ _ HA.out.i ge (j * 4 + 3) _ _ HCB.out (by decide) HgeB.out _ (mid_at HPL.out 3 rfl)).mono ?_
              rintro e wq ⟨rfl, hs⟩
              have HA : Hid (RAt w0 wq base br w.heap.size g (Tkt.ee4 sj) #[.int .u64 (rNumV st 8 : Int), .string ⟨(rBy (Tkt.q1 st) 6).toArray⟩, .int .i64 (rNumV (Tkt.q2 st) 4 : Int), .slice (some ⟨gc, 0, none⟩) ((rNumV (Tkt.q7 st) 1)) ((rNumV (Tkt.q7 st) 1)), .slice (some ⟨gx, 0, none⟩) ((rNumV (Tkt.q9 st) 1)) ((rNumV (Tkt.q9 st) 1)), .int .u64 (rNumV (Tkt.q3 st) 8 : Int), .int .u64 (rNumV (Tkt.q4 st) 8 : Int), .int .u64 (rNumV (Tkt.q5 st) 8 : Int), .int .i64 (IntKind.i64.wrap (rNumV (Tkt.q6 st) 8 : Int)), .int .i64 (rNumV (Tkt.q11 st) 1 : Int), .slice (some ⟨ge, 0, none⟩) ((rNumV (Tkt.q12 st) 1)) ((rNumV (Tkt.q12 st) 1))]) := Lib.hid (HA.out.step2 hs HgeR.out HgeN.out HgeA.out)
              have HCB : Hid (wq.heap[ge]? = some (.cells (mid pre [.int .i64 (rNumV sj 4 : Int), .int .i64 (rNumV (Tkt.ee1 sj) 1 : Int), .int .i64 (rNumV (Tkt.ee2 sj) 1 : Int), .int .i64 (rNumV (Tkt.ee3 sj) 1 : Int)] post) 46 (0, 0))) := Lib.hid (by have := hs.r; first | exact (mid_set_eq HPL.out 3 rfl rfl this))
              have Hgc := Lib.hid (hs.row Hgc.out Hgcge.out (by decide))
              have Hgx := Lib.hid (hs.row Hgx.out Hgxge.out (by decide))
              clear hs
              refine hK.out _ _ (.inr rfl) ?_
              clear hK K
              try simp only [Act.put, List.setIfInBounds_toArray, List.set_cons_zero, List.set_cons_succ]
              refine wpAnyG_done (by kernel_rfl) ?_ _
              clear hHeld
              go_wp2
              go_roundw
              case rel =>
                refine ⟨j + 1, by omega, by go_num, ?_, ?_, Hgc.out, Hgx.out⟩
                · show RAt _ _ _ _ _ _ (Tkt.gEs (Tkt.itS Tkt.gEs j (Tkt.q13 st))) _; rw [HSJ.out]; exact HA.out
                · rw [HNX.out]; exact HCB.out
              case measure => simp [intOf]; omega
            · have hjn : j = (rNumV (Tkt.q12 st) 1) := by omega
              subst hjn
              have Hge : Hid (wr.heap[ge]? = some (.cells ((encL Evt.cells (Tkt.itL Tkt.gE Tkt.gEs ((rNumV (Tkt.q12 st) 1)) (Tkt.q13 st))).toArray) 46 (0, 0))) := Lib.hid (by have := Hge.out; rw [rowJ_all] at this; exact this)
              have HA : Hid (RAt w0 wr base br w.heap.size g (Tkt.q14 st) #[.int .u64 (rNumV st 8 : Int), .string ⟨(rBy (Tkt.q1 st) 6).toArray⟩, .int .i64 (rNumV (Tkt.q2 st) 4 : Int), .slice (some ⟨gc, 0, none⟩) ((rNumV (Tkt.q7 st) 1)) ((rNumV (Tkt.q7 st) 1)), .slice (some ⟨gx, 0, none⟩) ((rNumV (Tkt.q9 st) 1)) ((rNumV (Tkt.q9 st) 1)), .int .u64 (rNumV (Tkt.q3 st) 8 : Int), .int .u64 (rNumV (Tkt.q4 st) 8 : Int), .int .u64 (rNumV (Tkt.q5 st) 8 : Int), .int .i64 (IntKind.i64.wrap (rNumV (Tkt.q6 st) 8 : Int)), .int .i64 (rNumV (Tkt.q11 st) 1 : Int), .slice (some ⟨ge, 0, none⟩) ((rNumV (Tkt.q12 st) 1)) ((rNumV (Tkt.q12 st) 1))]) := Lib.hid HA.out
              go_wp2_with fail
              go_end0
              exact ⟨rfl, ⟨some ⟨gc, 0, none⟩, (rNumV (Tkt.q7 st) 1), (rNumV (Tkt.q7 st) 1)⟩, ⟨some ⟨gx, 0, none⟩, (rNumV (Tkt.q9 st) 1), (rNumV (Tkt.q9 st) 1)⟩, ⟨some ⟨ge, 0, none⟩, (rNumV (Tkt.q12 st) 1), (rNumV (Tkt.q12 st) 1)⟩, HA.out.rg, HA.out.i, HPRE.out _ HA.out.b, HPK.out _ HA.out.k, own_rowG Hgc.out Cpn.cells_length (Tkt.itL_length _ _ _ _) (n_leG _) HgcB.out, own_rowG Hgx.out Txx.cells_length (Tkt.itL_length _ _ _ _) (n_leG _) HgxB.out, own_rowG Hge.out Evt.cells_length (Tkt.itL_length _ _ _ _) (n_leG _) HgeB.out⟩
end Go.Proofs.Ytmadkfahkbdibaa

set_option linter.unusedVariables false
set_option linter.unusedSimpArgs false
namespace Go.Proofs.Ytmadkfahkbdibaa
open Go.ChangeShapes Go.WideShapes Go.ChangeAt Go.RowKit Go.Deep

structure Stp where
  co : Int
  on : Int
  tq : Int
  wi : Int
def Stp.cells (s : Stp) : List Value := [.int .i64 s.co, .int .i64 s.on, .int .i64 s.tq, .int .u64 s.wi]
def Stp.wf (s : Stp) : Prop := I64 s.co ∧ I64 s.on ∧ U64 s.wi
theorem st_leaves : leaves Try.prog 4 37 = some ([.i64, .i64, .i64, .u64].map .int) := by kernel_rfl
section
variable {H : Type} {enc : TypeId × Value → H} {W : World} {held : Bool}
theorem open_steps {fuel : Nat} {v : Value} {x : DataW H × List MemPlace} (h : DataW.trod enc Try.prog W 0 (fun _ => true) held fuel 28 [v] = some x) : ∃ l : List Stp, LS Stp.cells 4 W v l ∧ ∀ y ∈ l, y.wf :=
  open_recs (n := 4) (ks := [.i64, .i64, .i64, .u64]) (fun y : Stp => y.wf) (fun zs hz => by
    obtain ⟨z0, r0, rfl, w0, h⟩ := hz.consT
    obtain ⟨z1, r1, rfl, w1, h⟩ := h.consT
    obtain ⟨z2, r2, rfl, w2, h⟩ := h.consT
    obtain ⟨z3, r3, rfl, w3, h⟩ := h.consT
    obtain rfl := h.nilT
    exact ⟨⟨z0, z1, z2, z3⟩, rfl, i64_wfT w0, i64_wfT w1, u64_wfT w3⟩) Try.underlying28 st_leaves (by kernel_rfl) (by decide) h
end
section
variable {α : Type} {enc : α → List Value} {n : Nat}
theorem LS.only {w w' : World} {v : Value} {l : List α} {g : Nat} (h : LS enc n w v l) (hne : l ≠ [] → ∀ b, v.ownBlock = some b → b ≠ g) (hw : Only g w w') : LS enc n w' v l := by
  by_cases hl : l = []
  · subst hl
    obtain ⟨p, cap, rfl, h1, h2, -⟩ := h
    exact ⟨p, cap, rfl, h1, h2, fun h => absurd rfl h⟩
  · exact h.keep hw.size (fun b hb hlt => hw.block b hlt (hne hl b hb))
theorem LS.old {w : World} {v : Value} {l : List α} (h : LS enc n w v l) {g : Nat} (hg : w.heap.size ≤ g) : l ≠ [] → ∀ b, v.ownBlock = some b → b ≠ g := fun hl b hb => by
  obtain ⟨p, cap, rfl, h1, h2, h3⟩ := h
  obtain ⟨b2, o, rfl, hlt, -⟩ := h3 hl
  simp only [Value.ownBlock] at hb
  injection hb with hb
  omega
end
/-- none of a ticket's lists lies in a block -/
structure Off (g : Nat) (t : Tk) (c x h : Sl) : Prop where
  c : t.cs ≠ [] → ∀ b, (Value.slice c.p c.n c.c).ownBlock = some b → b ≠ g
  x : t.ts ≠ [] → ∀ b, (Value.slice x.p x.n x.c).ownBlock = some b → b ≠ g
  h : t.hs ≠ [] → ∀ b, (Value.slice h.p h.n h.c).ownBlock = some b → b ≠ g
theorem TS.only {w w' : World} {t : Tk} {c x h : Sl} {g : Nat} (s : TS w t c x h) (ho : Off g t c x h) (hw : Only g w w') : TS w' t c x h :=
  ⟨s.cs.only ho.c hw, s.ts.only ho.x hw, s.hs.only ho.h hw, s.wf⟩
/-- what was handed in lies below the blocks that are made later -/
theorem Off.of_old {w : World} {t : Tk} {c x h : Sl} {g : Nat} (s : TS w t c x h) (hg : w.heap.size ≤ g) : Off g t c x h := ⟨s.cs.old hg, s.ts.old hg, s.hs.old hg⟩
/-- what lies in blocks from a place on is off a block below it -/
theorem Off.of_own {w : World} {B g : Nat} {t : Tk} {c x h : Sl} {e1 e2 e3 n1 n2 n3 m1 m2 m3 : Nat} {xs ys zs : List Value} (h1 : w.ownsRow B e1 n1 (.slice c.p c.n c.c) m1 xs) (h2 : w.ownsRow B e2 n2 (.slice x.p x.n x.c) m2 ys) (h3 : w.ownsRow B e3 n3 (.slice h.p h.n h.c) m3 zs) (hg : g < B) : Off g t c x h :=
  ⟨fun _ b hb => by have := (recs_base h1 hb).1; omega, fun _ b hb => by have := (recs_base h2 hb).1; omega, fun _ b hb => by have := (recs_base h3 hb).1; omega⟩
end Go.Proofs.Ytmadkfahkbdibaa

set_option linter.unusedVariables false
set_option linter.unusedSimpArgs false
namespace Go.Proofs.Ytmadkfahkbdibaa
open Go.ChangeShapes Go.WideShapes Go.ChangeAt Go.RowKit Go.Deep

theorem cutK {J G : Prop} (h : J → G) (k : J) : G := h k
section
variable {P : Program} {ops : Array Oper} {Q : Exit → Act → World → Prop} {md : Region.Mode} {C : World → Prop} {s0 : Nat}
/-- just two may come up -/
theorem wpAnyG_two {i j : Nat} {oi oj : Oper} {fuel : Nat} {listed : Array Bool} {a : Act} {w : World} (hr : Region.ready md ops listed = [i, j]) (hi : ops[i]? = some oi) (hj : ops[j]? = some oj)
    (h1 : ∀ K' : Act → World → Prop, Shut (∀ a w, (C w ∨ (listed.setIfInBounds i true).getD s0 false = true) → wpAnyG P md ops Q C s0 fuel (listed.setIfInBounds i true) a w → K' a w) → if Region.wanted oi (yielded ops a.tmps) = true then Oper.wp P oi a w K' Q else K' (a.put oi.dst undef) w)
    (h2 : ∀ K' : Act → World → Prop, Shut (∀ a w, (C w ∨ (listed.setIfInBounds j true).getD s0 false = true) → wpAnyG P md ops Q C s0 fuel (listed.setIfInBounds j true) a w → K' a w) → if Region.wanted oj (yielded ops a.tmps) = true then Oper.wp P oj a w K' Q else K' (a.put oj.dst undef) w) :
    wpAnyG P md ops Q C s0 (fuel + 1) listed a w := by
  refine ⟨fun h0 => (by rw [hr] at h0; cases h0), fun k hk => ?_⟩
  rw [hr] at hk
  rcases List.mem_cons.1 hk with rfl | hk
  · exact wpOp_step hi (fun K' hK => h1 K' (fun a w hS hW => hK a w ⟨hS, hW⟩))
  · obtain rfl := List.mem_singleton.1 hk
    exact wpOp_step hj (fun K' hK => h2 K' (fun a w hS hW => hK a w ⟨hS, hW⟩))
end
theorem Off.of_row {w : World} {B g : Nat} {t : Tk} {c x h : Sl} {n1 n2 n3 m1 m2 m3 : Nat} {xs ys zs : List Value} {cs : Array Value} {fr : Nat × Nat} (h1 : w.ownsRow B 44 n1 (.slice c.p c.n c.c) m1 xs) (h2 : w.ownsRow B 48 n2 (.slice x.p x.n x.c) m2 ys) (h3 : w.ownsRow B 46 n3 (.slice h.p h.n h.c) m3 zs) (hg : w.heap[g]? = some (.cells cs 27 fr)) : Off g t c x h :=
  ⟨fun _ => own_neT h1 hg (by decide), fun _ => own_neT h2 hg (by decide), fun _ => own_neT h3 hg (by decide)⟩
theorem below_put {w Y : World} {g : Nat} (hb : Below w.heap.size w Y) (hg : w.heap.size ≤ g) (cs : List Value) : Below w.heap.size w (Y.setCells g 0 cs) :=
  Only.below hb hg hb.size ((Only.refl g Y).setCells 0 cs)
section
variable {P : Program} {H : Type} {enc : TypeId × Value → H} {W : World} {held : Bool}
/-- a slice handed in as an argument -/
theorem open_top {r : Reach} {b0 : Nat} {t e : TypeId} {v : Value} {d : DataW H} {ps : List MemPlace} (hu : P.underlying t = some (.slice e)) (hv : Value.okWide P W r b0 t v) (h : DataW.Trod enc P W 0 (fun _ => true) held t v d ps) : ∃ fuel x, DataW.trod enc P W 0 (fun _ => true) held fuel t [v] = some x := by
  have hcs : v.cells = #[v] := by
    simp only [Value.okWide, hu] at hv
    cases v <;> first | rfl | simp [Cell.okWide, Cell.ok] at hv
  obtain ⟨fuel, hf⟩ := h
  rw [hcs] at hf
  exact ⟨fuel, _, hf⟩
end
section
variable {H : Type} {enc : TypeId × Value → H} {W : World} {held : Bool}
set_option maxRecDepth 10000 in
theorem open_steps' {r : Reach} {b0 : Nat} {v : Value} {d : DataW H} {ps : List MemPlace} (hv : Value.okWide Try.prog W r b0 28 v) (h : DataW.Trod enc Try.prog W 0 (fun _ => true) held 28 v d ps) : ∃ (l : List Stp) (p : Option Addr) (n cap : Nat), v = .slice p n cap ∧ LS Stp.cells 4 W (.slice p n cap) l ∧ ∀ y ∈ l, y.wf := by
  obtain ⟨fuel, x, hf⟩ := open_top Try.underlying28 hv h
  obtain ⟨l, h1, h2⟩ := open_steps hf
  obtain ⟨p, cap, rfl⟩ := h1.shape
  exact ⟨l, p, _, cap, rfl, h1, h2⟩
end
end Go.Proofs.Ytmadkfahkbdibaa

set_option linter.unusedVariables false
set_option linter.unusedSimpArgs false
namespace Go.Proofs.Ytmadkfahkbdibaa
open Go.ChangeShapes Go.WideShapes Go.ChangeAt Go.RowKit Go.Deep

namespace Tkt
/-- are bytes just a ticket's that may be? -/
def okT (b : List UInt8) : Bool := decide (q14 (some b) = some []) && mayB (gT (some b))
/-- the ticket of bytes -/
def ofT (b : List UInt8) : Tk := if okT b = true then gT (some b) else zTk
end Tkt
theorem u64_rNum (s : Option (List UInt8)) : U64 (rNumV s 8 : Int) := by
  have h : rNumV s 8 < 18446744073709551616 := rNumV_lt s 8
  exact ⟨by omega, by omega⟩
theorem i64_rNum (s : Option (List UInt8)) (k : Nat) (hk : k = 1 ∨ k = 2 ∨ k = 4) : I64 (rNumV s (k : Int) : Int) := by
  have h := rNumV_lt s k
  rcases hk with rfl | rfl | rfl <;> exact ⟨by omega, by omega⟩
theorem i64_wrapG (z : Int) : I64 (IntKind.i64.wrap z) := by
  rw [IntKind.wrap_i64]
  exact ⟨by omega, by omega⟩
theorem itL_all {α : Type} {g : Option (List UInt8) → α} {f : Option (List UInt8) → Option (List UInt8)} {p : α → Prop} (h : ∀ s, p (g s)) : ∀ (k : Nat) (s : Option (List UInt8)), ∀ x ∈ Tkt.itL g f k s, p x
  | 0, s, x, hx => by cases hx
  | k + 1, s, x, hx => by
    rcases List.mem_append.1 hx with hx | hx
    · exact itL_all h k s x hx
    · rw [List.mem_singleton.1 hx]; exact h _
theorem Tkt.gT_wf (s : Option (List UInt8)) : (Tkt.gT s).wf := by
  refine ⟨u64_rNum _, ?_, i64_rNum _ 4 (by decide), itL_all (fun s => ⟨i64_rNum _ 2 (by decide), i64_rNum _ 4 (by decide), i64_wrapG _, i64_rNum _ 1 (by decide), i64_rNum _ 2 (by decide), u64_rNum _⟩) _ _, itL_all (fun s => ⟨i64_rNum _ 1 (by decide), i64_wrapG _⟩) _ _, u64_rNum _, u64_rNum _, u64_rNum _, i64_wrapG _, i64_rNum _ 1 (by decide), itL_all (fun s => ⟨i64_rNum _ 4 (by decide), i64_rNum _ 1 (by decide), i64_rNum _ 1 (by decide), i64_rNum _ 1 (by decide)⟩) _ _⟩
  have h := rBy_le (Tkt.q1 s) 6
  show (ByteArray.mk (rBy (Tkt.q1 s) 6).toArray).size ≤ maxLen
  have h2 : (ByteArray.mk (rBy (Tkt.q1 s) 6).toArray).size = (rBy (Tkt.q1 s) 6).length := by
    show (rBy (Tkt.q1 s) 6).toArray.size = _
    simp
  rw [h2]
  exact Nat.le_trans h (by unfold maxLen; decide)
theorem recs_only {w w' : World} {base e n m g : Nat} {v : Value} {xs : List Value} (h : w.ownsRow base e n v m xs) (hne : ∀ b, v.ownBlock = some b → b ≠ g) (hw : Only g w w') : w'.ownsRow base e n v m xs := recs_keep h fun b hb hlt => hw.block b hlt (hne b hb)
attribute [local irreducible] Tkt.okT Tkt.ofT
attribute [local go_sem ↓] Tk_execLoad Tk_execStore
attribute [local go_sem] Tk_load Tk_store loL_drew okL_drew there_sc World.there_drew
set_option maxRecDepth 8000 in
set_option maxHeartbeats 4000000 in
theorem tof_any (v : Value) (b : List UInt8) (hl : b.length ≤ 1073741824) (w : World) (hv : BS w v b) : Calls Try.prog 22 #[v] w fun e w' => ∃ c x h : Sl, e = .returned (.tuple #[.agg #[.int .u64 (Tkt.ofT b).num, .string (Tkt.ofT b).loc, .int .i64 (Tkt.ofT b).iss, .slice c.p c.n c.c, .slice x.p x.n x.c, .int .u64 (Tkt.ofT b).prev, .int .u64 (Tkt.ofT b).org, .int .u64 (Tkt.ofT b).fst, .int .i64 (Tkt.ofT b).vou, .int .i64 (Tkt.ofT b).posts, .slice h.p h.n h.c], .int .i64 (if Tkt.okT b = true then 0 else 4)]) ∧ w'.ownsRow w.heap.size 44 6 (.slice c.p c.n c.c) (Tkt.ofT b).cs.length (encL Cpn.cells (Tkt.ofT b).cs) ∧ w'.ownsRow w.heap.size 48 2 (.slice x.p x.n x.c) (Tkt.ofT b).ts.length (encL Txx.cells (Tkt.ofT b).ts) ∧ w'.ownsRow w.heap.size 46 4 (.slice h.p h.n h.c) (Tkt.ofT b).hs.length (encL Evt.cells (Tkt.ofT b).hs) ∧ Below w.heap.size w w' := by
  obtain ⟨ev, hev⟩ : ∃ z : Int, (if Tkt.okT b = true then 0 else 4) = z := ⟨_, rfl⟩
  rw [hev]
  have HEV := Lib.hid hev
  clear hev
  have HV := Lib.hid hv
  have HB1 := Lib.hid ((Below.refl w.heap.size w).alloc (Nat.le_refl _) (.cells #[.int .u64 0, .string ⟨#[]⟩, .int .i64 0, .slice none 0 0, .slice none 0 0, .int .u64 0, .int .u64 0, .int .u64 0, .int .i64 0, .int .i64 0, .slice none 0 0] 27 (0, 0)))
  have HZ1 : Hid ((w.alloc (.cells #[.int .u64 0, .string ⟨#[]⟩, .int .i64 0, .slice none 0 0, .slice none 0 0, .int .u64 0, .int .u64 0, .int .u64 0, .int .i64 0, .int .i64 0, .slice none 0 0] 27 (0, 0))).heap[w.heap.size]? = some (.cells #[.int .u64 0, .string ⟨#[]⟩, .int .i64 0, .slice none 0 0, .slice none 0 0, .int .u64 0, .int .u64 0, .int .u64 0, .int .i64 0, .int .i64 0, .slice none 0 0] 27 (0, 0))) := Lib.hid (new_rowW _ _ _ rfl)
  have HRD := Lib.hid (read_any v b hl _ (hv.below HB1.out))
  clear hv
  go_enter Try.func22, Try.ntmps22
  go_wp2_with fail
  generalize w.alloc (.cells #[.int .u64 0, .string ⟨#[]⟩, .int .i64 0, .slice none 0 0, .slice none 0 0, .int .u64 0, .int .u64 0, .int .u64 0, .int .i64 0, .int .i64 0, .slice none 0 0] 27 (0, 0)) = w1 at *
  refine HRD.out.mono ?_
  rintro e w2 ⟨br, rfl, hi, hb2⟩
  have HI := Lib.hid hi
  have HB2 := Lib.hid hb2
  have HZ2 := Lib.hid ((hb2.block _ (block_lt HZ1.out)).trans HZ1.out)
  clear hi hb2
  go_wp2_with fail
  have hb3 := ((Below.refl w2.heap.size w2).alloc (Nat.le_refl _) (.cells #[.pointer none, .pointer (some ⟨br, 0, none⟩)] 109 (0, 0))).alloc (by simp) (.cells #[.int .u64 0, .string ⟨#[]⟩, .int .i64 0, .slice none 0 0, .slice none 0 0, .int .u64 0, .int .u64 0, .int .u64 0, .int .i64 0, .int .i64 0, .slice none 0 0] 27 (0, 0))
  have HI3 := Lib.hid (HI.out.below hb3)
  have HG3 : Hid (((w2.alloc (.cells #[.pointer none, .pointer (some ⟨br, 0, none⟩)] 109 (0, 0))).alloc (.cells #[.int .u64 0, .string ⟨#[]⟩, .int .i64 0, .slice none 0 0, .slice none 0 0, .int .u64 0, .int .u64 0, .int .u64 0, .int .i64 0, .int .i64 0, .slice none 0 0] 27 (0, 0))).heap[w2.heap.size + 1]? = some (.cells #[.int .u64 0, .string ⟨#[]⟩, .int .i64 0, .slice none 0 0, .slice none 0 0, .int .u64 0, .int .u64 0, .int .u64 0, .int .i64 0, .int .i64 0, .slice none 0 0] 27 (0, 0))) := Lib.hid (new_rowW _ _ _ (by simp))
  have HW3 : Hid (((w2.alloc (.cells #[.pointer none, .pointer (some ⟨br, 0, none⟩)] 109 (0, 0))).alloc (.cells #[.int .u64 0, .string ⟨#[]⟩, .int .i64 0, .slice none 0 0, .slice none 0 0, .int .u64 0, .int .u64 0, .int .u64 0, .int .i64 0, .int .i64 0, .slice none 0 0] 27 (0, 0))).heap[w2.heap.size]? = some (.cells #[.pointer none, .pointer (some ⟨br, 0, none⟩)] 109 (0, 0))) := Lib.hid (row_after (new_rowW _ _ _ rfl))
  have HZ3 := Lib.hid ((hb3.block _ (block_lt HZ2.out)).trans HZ2.out)
  have HB3 := Lib.hid (HB2.out.trans (hb3.mono HB2.out.size))
  have HGL : Hid (w1.heap.size ≤ w2.heap.size + 1) := Lib.hid (by have := HB2.out.size; omega)
  clear hb3
  generalize ((w2.alloc (.cells #[.pointer none, .pointer (some ⟨br, 0, none⟩)] 109 (0, 0))).alloc (.cells #[.int .u64 0, .string ⟨#[]⟩, .int .i64 0, .slice none 0 0, .slice none 0 0, .int .u64 0, .int .u64 0, .int .u64 0, .int .i64 0, .int .i64 0, .slice none 0 0] 27 (0, 0))) = w3 at *
  refine (gticket_any w1.heap.size br (some b) _ (w2.heap.size + 1) HI3.out HG3.out HGL.out).mono ?_
  rintro e w4 ⟨rfl, c, x, h, hrow, hi, hbl, hkp, o1, o2, o3⟩
  have HI4 := Lib.hid hi
  have HR4 := Lib.hid hrow
  have HB4 := Lib.hid (HB3.out.trans (hbl.mono (Nat.le_refl _)))
  have HZ4 := Lib.hid ((hbl.block _ (block_lt HZ1.out)).trans HZ3.out)
  have HW4 := Lib.hid (hkp.block _ _ _ _ (by omega) HW3.out (by decide))
  have HWB := Lib.hid (HB1.out.trans (HB4.out.mono HB1.out.size))
  have e1 := (recs_cases o1 Cpn.cells_length (by decide)).1; have e2 := (recs_cases o2 Txx.cells_length (by decide)).1; have e3 := (recs_cases o3 Evt.cells_length (by decide)).1
  rw [e1] at o1; rw [e2] at o2; rw [e3] at o3
  have O1 : Hid (w4.ownsRow w.heap.size 44 6 (.slice c.p c.n c.c) (Tkt.gT (some b)).cs.length (encL Cpn.cells (Tkt.gT (some b)).cs)) := Lib.hid (by rw [e1]; exact own_monoT o1 HB1.out.size)
  have O2 : Hid (w4.ownsRow w.heap.size 48 2 (.slice x.p x.n x.c) (Tkt.gT (some b)).ts.length (encL Txx.cells (Tkt.gT (some b)).ts)) := Lib.hid (by rw [e2]; exact own_monoT o2 HB1.out.size)
  have O3 : Hid (w4.ownsRow w.heap.size 46 4 (.slice h.p h.n h.c) (Tkt.gT (some b)).hs.length (encL Evt.cells (Tkt.gT (some b)).hs)) := Lib.hid (by rw [e3]; exact own_monoT o3 HB1.out.size)
  have HTS := Lib.hid (TS.of_own (Tkt.gT_wf (some b)) O1.out O2.out O3.out)
  have HM := Lib.hid (fun W hW => tmay_any (Tkt.gT (some b)) c x h W (HTS.out.below hW))
  obtain ⟨T, hT⟩ : ∃ T, Tkt.gT (some b) = T := ⟨_, rfl⟩
  have HOK : Hid (Tkt.okT b = (decide (Tkt.q14 (some b) = some []) && Tkt.mayB T)) := Lib.hid (by unfold Tkt.okT; rw [hT])
  have HOF : Hid (Tkt.ofT b = if Tkt.okT b = true then T else Tkt.zTk) := Lib.hid (by unfold Tkt.ofT; rw [hT])
  rw [hT] at HR4 O1 O2 O3 HTS HM
  obtain ⟨q, hq⟩ : ∃ q, Tkt.q14 (some b) = q := ⟨_, rfl⟩
  rw [hq] at HI4 HOK
  clear hT hq hrow hi hbl hkp o1 o2 o3 e1 e2 e3
  have HEN := Lib.hid (rend_any w1.heap.size br q w4 HI4.out)
  have hcw := fun j => cell_of_row w4 w2.heap.size j _ _ _ HW4.out
  obtain ⟨mb, hmb⟩ : ∃ m, Tkt.mayB T = m := ⟨_, rfl⟩
  rw [hmb] at HM HOK
  clear hmb
  by_cases hq : q = some []
  · rw [if_pos hq] at HEN
    have HQ := Lib.hid hq
    clear hq
    go_wp2_with fail
    refine HEN.out.mono ?_
    rintro e w5 ⟨rfl, nd, rfl⟩
    have HB5 := Lib.hid (HWB.out.trans ((below_drewN w4 nd).mono HWB.out.size))
    have HZ5 := Lib.hid (((below_drewN w4 nd).block _ (block_lt HZ4.out)).trans HZ4.out)
    have HR5 := Lib.hid (((below_drewN w4 nd).block _ (block_lt HR4.out)).trans HR4.out)
    have P1 := Lib.hid (recs_below O1.out (below_drewN w4 nd))
    have P2 := Lib.hid (recs_below O2.out (below_drewN w4 nd))
    have P3 := Lib.hid (recs_below O3.out (below_drewN w4 nd))
    clear hcw
    have HBD := Lib.hid (below_drewN w4 nd)
    generalize hw5 : w4.drewN nd = w5 at *
    clear hw5
    obtain ⟨f1, f2⟩ := row_loT 11 HR5.out rfl rfl
    go_wp2_with fail
    refine (HM.out _ HBD.out).mono ?_
    rintro e w6 ⟨rfl, hbn⟩
    have HB5 := Lib.hid (HB5.out.trans (hbn.mono HB5.out.size))
    have HZ5 := Lib.hid ((hbn.block _ (block_lt HZ5.out)).trans HZ5.out)
    have HR5 := Lib.hid ((hbn.block _ (block_lt HR5.out)).trans HR5.out)
    have P1 := Lib.hid (recs_below P1.out hbn)
    have P2 := Lib.hid (recs_below P2.out hbn)
    have P3 := Lib.hid (recs_below P3.out hbn)
    clear hbn f1 f2
    cases mb
    · have HOKF : Hid (Tkt.okT b = false) := Lib.hid (by rw [HOK.out]; simp)
      have th := there_rowT (n := 11) HZ5.out rfl
      have h1n : ([.int .u64 0, .string ⟨#[]⟩, .int .i64 0, .slice none 0 0, .slice none 0 0, .int .u64 0, .int .u64 0, .int .u64 0, .int .i64 0, .int .i64 0, .slice none 0 0] : List Value).length = 11 := rfl
      have h1c : ([.int .u64 0, .string ⟨#[]⟩, .int .i64 0, .slice none 0 0, .slice none 0 0, .int .u64 0, .int .u64 0, .int .u64 0, .int .i64 0, .int .i64 0, .slice none 0 0] : List Value).all (·.oneCell') = true := rfl
      go_wp2_with fail
      have hr6 := setCells_rowT (g := w.heap.size) (cs := [.int .u64 0, .string ⟨#[]⟩, .int .i64 0, .slice none 0 0, .slice none 0 0, .int .u64 0, .int .u64 0, .int .u64 0, .int .i64 0, .int .i64 0, .slice none 0 0]) HZ5.out rfl
      (try simp only [Exit.inBlock, Exit.then])
      refine bodyPost_ret (results_cellT2 rfl _ _ w.heap.size rfl (loadTk hr6 rfl)) rfl ?_
      have e0 : Tkt.ofT b = Tkt.zTk := by rw [HOF.out, if_neg (by rw [HOKF.out]; simp)]
      obtain rfl : ev = 4 := by rw [← HEV.out]; exact if_neg (by rw [HOKF.out]; simp)
      rw [e0]
      clear e0
      exact ⟨⟨none, 0, 0⟩, ⟨none, 0, 0⟩, ⟨none, 0, 0⟩, rfl, World.ownsRow_nil _ _ _ _, World.ownsRow_nil _ _ _ _, World.ownsRow_nil _ _ _ _, Only.below HB5.out (Nat.le_refl _) HB5.out.size ((Only.refl w.heap.size _).setCells 0 _)⟩
    · have HOKT : Hid (Tkt.okT b = true) := Lib.hid (by rw [HOK.out, HQ.out]; rfl)
      obtain ⟨f1, f2⟩ := row_loT 11 HR5.out rfl rfl
      have th := there_rowT (n := 11) HZ5.out rfl
      have h1n : ([.int .u64 T.num, .string T.loc, .int .i64 T.iss, .slice c.p c.n c.c, .slice x.p x.n x.c, .int .u64 T.prev, .int .u64 T.org, .int .u64 T.fst, .int .i64 T.vou, .int .i64 T.posts, .slice h.p h.n h.c] : List Value).length = 11 := rfl
      have h1c : ([.int .u64 T.num, .string T.loc, .int .i64 T.iss, .slice c.p c.n c.c, .slice x.p x.n x.c, .int .u64 T.prev, .int .u64 T.org, .int .u64 T.fst, .int .i64 T.vou, .int .i64 T.posts, .slice h.p h.n h.c] : List Value).all (·.oneCell') = true := rfl
      go_wp2_with fail
      have hr6 := setCells_rowT (g := w.heap.size) (cs := [.int .u64 T.num, .string T.loc, .int .i64 T.iss, .slice c.p c.n c.c, .slice x.p x.n x.c, .int .u64 T.prev, .int .u64 T.org, .int .u64 T.fst, .int .i64 T.vou, .int .i64 T.posts, .slice h.p h.n h.c]) HZ5.out rfl
      (try simp only [Exit.inBlock, Exit.then])
      refine bodyPost_ret (results_cellT2 rfl _ _ w.heap.size rfl (loadTk hr6 rfl)) rfl ?_
      have e0 : Tkt.ofT b = T := by rw [HOF.out, if_pos HOKT.out]
      obtain rfl : ev = 0 := by rw [← HEV.out]; exact if_pos HOKT.out
      rw [e0]
      clear e0
      exact ⟨c, x, h, rfl, recs_only P1.out (own_neT P1.out HZ5.out (by decide)) ((Only.refl w.heap.size _).setCells 0 _), recs_only P2.out (own_neT P2.out HZ5.out (by decide)) ((Only.refl w.heap.size _).setCells 0 _), recs_only P3.out (own_neT P3.out HZ5.out (by decide)) ((Only.refl w.heap.size _).setCells 0 _), Only.below HB5.out (Nat.le_refl _) HB5.out.size ((Only.refl w.heap.size _).setCells 0 _)⟩
  · rw [if_neg hq] at HEN
    have HOKF : Hid (Tkt.okT b = false) := Lib.hid (by rw [HOK.out, decide_eq_false hq]; rfl)
    clear hq
    go_wp2_with fail
    refine HEN.out.mono ?_
    rintro e w5 ⟨rfl, nd, rfl⟩
    have HB5 := Lib.hid (HWB.out.trans ((below_drewN w4 nd).mono HWB.out.size))
    have HZ5 := Lib.hid (((below_drewN w4 nd).block _ (block_lt HZ4.out)).trans HZ4.out)
    have HR5 := Lib.hid (((below_drewN w4 nd).block _ (block_lt HR4.out)).trans HR4.out)
    have P1 := Lib.hid (recs_below O1.out (below_drewN w4 nd))
    have P2 := Lib.hid (recs_below O2.out (below_drewN w4 nd))
    have P3 := Lib.hid (recs_below O3.out (below_drewN w4 nd))
    clear hcw
    generalize hw5 : w4.drewN nd = w5 at *
    clear hw5
    have th := there_rowT (n := 11) HZ5.out rfl
    have h1n : ([.int .u64 0, .string ⟨#[]⟩, .int .i64 0, .slice none 0 0, .slice none 0 0, .int .u64 0, .int .u64 0, .int .u64 0, .int .i64 0, .int .i64 0, .slice none 0 0] : List Value).length = 11 := rfl
    have h1c : ([.int .u64 0, .string ⟨#[]⟩, .int .i64 0, .slice none 0 0, .slice none 0 0, .int .u64 0, .int .u64 0, .int .u64 0, .int .i64 0, .int .i64 0, .slice none 0 0] : List Value).all (·.oneCell') = true := rfl
    go_wp2_with fail
    have hr6 := setCells_rowT (g := w.heap.size) (cs := [.int .u64 0, .string ⟨#[]⟩, .int .i64 0, .slice none 0 0, .slice none 0 0, .int .u64 0, .int .u64 0, .int .u64 0, .int .i64 0, .int .i64 0, .slice none 0 0]) HZ5.out rfl
    (try simp only [Exit.inBlock, Exit.then])
    refine bodyPost_ret (results_cellT2 rfl _ _ w.heap.size rfl (loadTk hr6 rfl)) rfl ?_
    have e0 : Tkt.ofT b = Tkt.zTk := by rw [HOF.out, if_neg (by rw [HOKF.out]; simp)]
    obtain rfl : ev = 4 := by rw [← HEV.out]; exact if_neg (by rw [HOKF.out]; simp)
    rw [e0]
    clear e0
    exact ⟨⟨none, 0, 0⟩, ⟨none, 0, 0⟩, ⟨none, 0, 0⟩, rfl, World.ownsRow_nil _ _ _ _, World.ownsRow_nil _ _ _ _, World.ownsRow_nil _ _ _ _, Only.below HB5.out (Nat.le_refl _) HB5.out.size ((Only.refl w.heap.size _).setCells 0 _)⟩
end Go.Proofs.Ytmadkfahkbdibaa

set_option linter.unusedVariables false
set_option linter.unusedSimpArgs false
namespace Go.Proofs.Ytmadkfahkbdibaa
open Go.RowKit

namespace Tkt
theorem beVal_eq (l : List UInt8) : beVal l = Wire.ofBe l := by
  unfold beVal Wire.ofBe
  congr 1
  funext n b
  unfold Wire.bstep
  omega
def okSz (k : Nat) : Prop := k = 1 ∨ k = 2 ∨ k = 4 ∨ k = 8
theorem rSize_ok {k : Nat} (hk : okSz k) : rSize (k : Int) = true := by
  rcases hk with rfl | rfl | rfl | rfl <;> rfl
/-- a number that was put is taken as it was -/
theorem rnum_put (x k : Nat) (t : List UInt8) (hk : okSz k) (hx : x < 256 ^ k) : rNumV (some (Wire.be x k ++ t)) (k : Int) = x ∧ rNumS (some (Wire.be x k ++ t)) (k : Int) = some t := by
  have hl := Wire.be_length x k
  have h := rTake_fit (l := Wire.be x k ++ t) (n := k) (by rw [List.length_append]; omega)
  unfold rNumS rNumV rBy
  rw [if_pos (rSize_ok hk), if_pos (rSize_ok hk), h.1, h.2]
  refine ⟨?_, ?_⟩
  · simp only [Option.getD_some]
    rw [List.take_append_of_le_length (by omega), List.take_of_length_le (by omega), beVal_eq, Wire.ofBe_be, Nat.mod_eq_of_lt hx]
  · rw [List.drop_append_of_le_length (by omega), List.drop_of_length_le (by omega)]
    rfl
/-- where a number was taken, its bytes were there -/
theorem rnum_inv {st : Option (List UInt8)} {k : Nat} {r : List UInt8} (hk : okSz k) (h : rNumS st (k : Int) = some r) : st = some (Wire.be (rNumV st (k : Int)) k ++ r) := by
  unfold rNumS at h
  rw [if_pos (rSize_ok hk)] at h
  cases st with
  | none => cases h
  | some l =>
    by_cases hf : k ≤ l.length
    · have hx := rTake_fit hf
      rw [hx.2] at h
      injection h with h
      unfold rNumV rBy
      rw [if_pos (rSize_ok hk), hx.1, ← h]
      simp only [Option.getD_some]
      have e : Wire.be (beVal (l.take k)) k = l.take k := by
        have := Wire.be_ofBe (l.take k)
        rwa [List.length_take, Nat.min_eq_left hf, ← beVal_eq] at this
      rw [e, List.take_append_drop]
    · have hx := rTake_bad (st := some l) (n := (k : Int)) (fun l' e => by injection e with e; subst e; omega)
      rw [hx.2] at h
      cases h
theorem rest_put (b t : List UInt8) (n : Nat) (hn : b.length = n) : rBy (some (b ++ t)) (n : Int) = b ∧ rRest (some (b ++ t)) (n : Int) = some t := by
  have h := rTake_fit (l := b ++ t) (n := n) (by rw [List.length_append]; omega)
  unfold rBy
  rw [h.1, h.2]
  subst hn
  simp
theorem rest_inv {st : Option (List UInt8)} {n : Nat} {r : List UInt8} (h : rRest st (n : Int) = some r) : st = some (rBy st (n : Int) ++ r) ∧ (rBy st (n : Int)).length = n := by
  cases st with
  | none => cases h
  | some l =>
    by_cases hf : n ≤ l.length
    · have hx := rTake_fit hf
      rw [hx.2] at h
      injection h with h
      unfold rBy
      rw [hx.1, ← h]
      simp only [Option.getD_some]
      rw [List.take_append_drop, List.length_take, Nat.min_eq_left hf]
      exact ⟨Eq.refl _, Eq.refl _⟩
    · have hx := rTake_bad (st := some l) (n := (n : Int)) (fun l' e => by injection e with e; subst e; omega)
      rw [hx.2] at h
      cases h
theorem wrap_nn {n : Nat} (h : n < 9223372036854775808) : IntKind.i64.wrap (n : Int) = (n : Int) := by rw [IntKind.wrap_i64]; omega
theorem wrap_back {n : Nat} (h : n < 18446744073709551616) (h0 : 0 ≤ IntKind.i64.wrap (n : Int)) : IntKind.i64.wrap (n : Int) = (n : Int) := by
  rw [IntKind.wrap_i64] at h0 ⊢
  omega
/-- lists: put, then taken -/
theorem it_put {α : Type} {g : Option (List UInt8) → α} {f : Option (List UInt8) → Option (List UInt8)} {en : α → List UInt8} {p : α → Prop} (h1 : ∀ x t, p x → g (some (en x ++ t)) = x ∧ f (some (en x ++ t)) = some t) :
    ∀ (l : List α) (t : List UInt8), (∀ x ∈ l, p x) → itS f l.length (some (l.flatMap en ++ t)) = some t ∧ itL g f l.length (some (l.flatMap en ++ t)) = l := by
  have key : ∀ (l : List α) (t : List UInt8), (∀ x ∈ l, p x) → ∀ k, k ≤ l.length → itS f k (some (l.flatMap en ++ t)) = some ((l.drop k).flatMap en ++ t) ∧ itL g f k (some (l.flatMap en ++ t)) = l.take k := by
    intro l t hp k
    induction k with
    | zero => intro _; exact ⟨Eq.refl _, Eq.refl _⟩
    | succ k ih =>
      intro hk
      obtain ⟨i1, i2⟩ := ih (by omega)
      have hx : l.drop k = l[k] :: l.drop (k + 1) := (List.drop_eq_getElem_cons (by omega))
      rw [hx, List.flatMap_cons, List.append_assoc] at i1
      obtain ⟨a1, a2⟩ := h1 l[k] ((l.drop (k + 1)).flatMap en ++ t) (hp _ (List.getElem_mem _))
      rw [itS, itL, i1, i2, a1, a2]
      exact ⟨Eq.refl _, by rw [List.take_succ_eq_append_getElem (by omega)]⟩
  intro l t hp
  obtain ⟨k1, k2⟩ := key l t hp l.length (Nat.le_refl _)
  rw [k1, k2]
  simp
/-- lists: what was taken was there -/
theorem it_inv {α : Type} {g : Option (List UInt8) → α} {f : Option (List UInt8) → Option (List UInt8)} {en : α → List UInt8} {p : α → Prop} (h1 : ∀ s r, f s = some r → p (g s) → s = some (en (g s) ++ r)) :
    ∀ (k : Nat) (s : Option (List UInt8)) (r : List UInt8), itS f k s = some r → (∀ x ∈ itL g f k s, p x) → s = some ((itL g f k s).flatMap en ++ r)
  | 0, s, r, h, _ => h
  | k + 1, s, r, h, hp => by
    rw [itS] at h
    rw [itL] at hp ⊢
    have h2 := h1 _ _ h (hp _ (by simp))
    have h3 := it_inv h1 k s _ h2 (fun x hx => hp x (by simp [hx]))
    conv => lhs; rw [h3]
    rw [List.flatMap_append, List.append_assoc]
    simp
def fitC (c : Cpn) : Prop := fitN c.fl 65536 ∧ fitN c.dy 4294967296 ∧ fitN c.va 9223372036854775808 ∧ fitN c.st 256 ∧ fitN c.ho 65536 ∧ fitN c.nx 18446744073709551616
def fitX (c : Txx) : Prop := fitN c.cd 256 ∧ fitN c.am 9223372036854775808
def fitE (c : Evt) : Prop := fitN c.dy 4294967296 ∧ fitN c.co 256 ∧ fitN c.fr 256 ∧ fitN c.to 256
theorem num_fit (x : Int) (k b : Nat) (t : List UInt8) (hk : okSz k) (hb : b ≤ 256 ^ k) (h : fitN x b) : ((rNumV (some (Wire.be x.toNat k ++ t)) (k : Int) : Nat) : Int) = x ∧ rNumS (some (Wire.be x.toNat k ++ t)) (k : Int) = some t := by
  obtain ⟨h1, h2⟩ := rnum_put x.toNat k t hk (Nat.lt_of_lt_of_le h.2 hb)
  rw [h1]
  exact ⟨Int.toNat_of_nonneg h.1, h2⟩
theorem sz1 : okSz 1 := .inl (Eq.refl _)
theorem sz2 : okSz 2 := .inr (.inl (Eq.refl _))
theorem sz4 : okSz 4 := .inr (.inr (.inl (Eq.refl _)))
theorem sz8 : okSz 8 := .inr (.inr (.inr (Eq.refl _)))
theorem cpn_put (c : Cpn) (t : List UInt8) (h : fitC c) : gC (some (encC c ++ t)) = c ∧ gCs (some (encC c ++ t)) = some t := by
  obtain ⟨f1, f2, f3, f4, f5, f6⟩ := h
  unfold encC
  simp only [List.append_assoc]
  obtain ⟨a1, b1⟩ := num_fit c.fl 2 _ (Wire.be c.dy.toNat 4 ++ (Wire.be c.va.toNat 8 ++ (Wire.be c.st.toNat 1 ++ (Wire.be c.ho.toNat 2 ++ (Wire.be c.nx.toNat 8 ++ t))))) sz2 (by decide) f1
  obtain ⟨a2, b2⟩ := num_fit c.dy 4 _ (Wire.be c.va.toNat 8 ++ (Wire.be c.st.toNat 1 ++ (Wire.be c.ho.toNat 2 ++ (Wire.be c.nx.toNat 8 ++ t)))) sz4 (by decide) f2
  obtain ⟨a3, b3⟩ := rnum_put c.va.toNat 8 (Wire.be c.st.toNat 1 ++ (Wire.be c.ho.toNat 2 ++ (Wire.be c.nx.toNat 8 ++ t))) sz8 (by have := f3.2; omega)
  obtain ⟨a4, b4⟩ := num_fit c.st 1 _ (Wire.be c.ho.toNat 2 ++ (Wire.be c.nx.toNat 8 ++ t)) sz1 (by decide) f4
  obtain ⟨a5, b5⟩ := num_fit c.ho 2 _ (Wire.be c.nx.toNat 8 ++ t) sz2 (by decide) f5
  obtain ⟨a6, b6⟩ := num_fit c.nx 8 _ t sz8 (by decide) f6
  have e1 : cc1 (some (Wire.be c.fl.toNat 2 ++ (Wire.be c.dy.toNat 4 ++ (Wire.be c.va.toNat 8 ++ (Wire.be c.st.toNat 1 ++ (Wire.be c.ho.toNat 2 ++ (Wire.be c.nx.toNat 8 ++ t))))))) = _ := b1
  unfold gC gCs cc6 cc5 cc4 cc3 cc2
  rw [e1, show rNumS _ 4 = _ from b2, show rNumS _ 8 = _ from b3, show rNumS _ 1 = _ from b4, show rNumS _ 2 = _ from b5, show rNumS _ 8 = _ from b6]
  refine ⟨?_, Eq.refl _⟩
  rw [show ((rNumV _ 2 : Nat) : Int) = _ from a1, show ((rNumV _ 4 : Nat) : Int) = _ from a2, show rNumV _ 8 = _ from a3, show ((rNumV _ 1 : Nat) : Int) = _ from a4, show ((rNumV _ 2 : Nat) : Int) = _ from a5, show ((rNumV _ 8 : Nat) : Int) = _ from a6, wrap_nn f3.2, Int.toNat_of_nonneg f3.1]
theorem tax_put (c : Txx) (t : List UInt8) (h : fitX c) : gX (some (encX c ++ t)) = c ∧ gXs (some (encX c ++ t)) = some t := by
  obtain ⟨f1, f3⟩ := h
  unfold encX
  simp only [List.append_assoc]
  obtain ⟨a1, b1⟩ := num_fit c.cd 1 _ (Wire.be c.am.toNat 8 ++ t) sz1 (by decide) f1
  obtain ⟨a3, b3⟩ := rnum_put c.am.toNat 8 t sz8 (by have := f3.2; omega)
  have e1 : xx1 (some (Wire.be c.cd.toNat 1 ++ (Wire.be c.am.toNat 8 ++ t))) = _ := b1
  unfold gX gXs xx2
  rw [e1, show rNumS _ 8 = _ from b3]
  refine ⟨?_, Eq.refl _⟩
  rw [show ((rNumV _ 1 : Nat) : Int) = _ from a1, show rNumV _ 8 = _ from a3, wrap_nn f3.2, Int.toNat_of_nonneg f3.1]
theorem evt_put (c : Evt) (t : List UInt8) (h : fitE c) : gE (some (encE c ++ t)) = c ∧ gEs (some (encE c ++ t)) = some t := by
  obtain ⟨f1, f2, f3, f4⟩ := h
  unfold encE
  simp only [List.append_assoc]
  obtain ⟨a1, b1⟩ := num_fit c.dy 4 _ (Wire.be c.co.toNat 1 ++ (Wire.be c.fr.toNat 1 ++ (Wire.be c.to.toNat 1 ++ t))) sz4 (by decide) f1
  obtain ⟨a2, b2⟩ := num_fit c.co 1 _ (Wire.be c.fr.toNat 1 ++ (Wire.be c.to.toNat 1 ++ t)) sz1 (by decide) f2
  obtain ⟨a3, b3⟩ := num_fit c.fr 1 _ (Wire.be c.to.toNat 1 ++ t) sz1 (by decide) f3
  obtain ⟨a4, b4⟩ := num_fit c.to 1 _ t sz1 (by decide) f4
  have e1 : ee1 (some (Wire.be c.dy.toNat 4 ++ (Wire.be c.co.toNat 1 ++ (Wire.be c.fr.toNat 1 ++ (Wire.be c.to.toNat 1 ++ t))))) = _ := b1
  unfold gE gEs ee4 ee3 ee2
  rw [e1, show rNumS (some (Wire.be c.co.toNat 1 ++ _)) 1 = _ from b2, show rNumS (some (Wire.be c.fr.toNat 1 ++ _)) 1 = _ from b3, show rNumS (some (Wire.be c.to.toNat 1 ++ _)) 1 = _ from b4]
  refine ⟨?_, Eq.refl _⟩
  rw [show ((rNumV _ 4 : Nat) : Int) = _ from a1, show ((rNumV (some (Wire.be c.co.toNat 1 ++ _)) 1 : Nat) : Int) = _ from a2, show ((rNumV (some (Wire.be c.fr.toNat 1 ++ _)) 1 : Nat) : Int) = _ from a3, show ((rNumV (some (Wire.be c.to.toNat 1 ++ _)) 1 : Nat) : Int) = _ from a4]
theorem cpn_inv (s : Option (List UInt8)) (r : List UInt8) (h : gCs s = some r) (h0 : 0 ≤ (gC s).va) : s = some (encC (gC s) ++ r) := by
  have b6 := rnum_inv (k := 8) sz8 (st := cc5 s) h
  have b5 := rnum_inv (k := 2) sz2 (st := cc4 s) b6
  have b4 := rnum_inv (k := 1) sz1 (st := cc3 s) b5
  have b3 := rnum_inv (k := 8) sz8 (st := cc2 s) b4
  have b2 := rnum_inv (k := 4) sz4 (st := cc1 s) b3
  have b1 := rnum_inv (k := 2) sz2 (st := s) b2
  have hw : IntKind.i64.wrap (rNumV (cc2 s) 8 : Int) = (rNumV (cc2 s) 8 : Int) := wrap_back (rNumV_lt (cc2 s) 8) h0
  conv => lhs; rw [b1]
  unfold encC gC
  simp only [hw, Int.toNat_natCast, List.append_assoc]
  rfl
theorem tax_inv (s : Option (List UInt8)) (r : List UInt8) (h : gXs s = some r) (h0 : 0 ≤ (gX s).am) : s = some (encX (gX s) ++ r) := by
  have b2 := rnum_inv (k := 8) sz8 (st := xx1 s) h
  have b1 := rnum_inv (k := 1) sz1 (st := s) b2
  have hw : IntKind.i64.wrap (rNumV (xx1 s) 8 : Int) = (rNumV (xx1 s) 8 : Int) := wrap_back (rNumV_lt (xx1 s) 8) h0
  conv => lhs; rw [b1]
  unfold encX gX
  simp only [hw, Int.toNat_natCast, List.append_assoc]
  rfl
theorem evt_inv (s : Option (List UInt8)) (r : List UInt8) (h : gEs s = some r) (h0 : True) : s = some (encE (gE s) ++ r) := by
  have b4 := rnum_inv (k := 1) sz1 (st := ee3 s) h
  have b3 := rnum_inv (k := 1) sz1 (st := ee2 s) b4
  have b2 := rnum_inv (k := 1) sz1 (st := ee1 s) b3
  have b1 := rnum_inv (k := 4) sz4 (st := s) b2
  conv => lhs; rw [b1]
  unfold encE gE
  simp only [Int.toNat_natCast, List.append_assoc]
  rfl
theorem may_vou {t : Tk} (h : mayB t = true) : 0 ≤ t.vou := by
  unfold mayB headB at h
  simp only [Bool.and_eq_true, decide_eq_true_eq] at h
  omega
set_option maxHeartbeats 4000000 in
/-- bytes that are a ticket's that may be are that ticket's -/
theorem enc_of {b : List UInt8} (h : okT b = true) : encT (gT (some b)) = b := by
  unfold okT at h
  simp only [Bool.and_eq_true, decide_eq_true_eq] at h
  obtain ⟨h0, hm⟩ := h
  have hc : ∀ x ∈ (gT (some b)).cs, 0 ≤ x.va := fun x hx => by
    unfold mayB at hm
    simp only [Bool.and_eq_true, List.all_eq_true] at hm
    have := hm.1.1.2 x hx
    unfold cpnB someB at this
    simp only [Bool.and_eq_true, decide_eq_true_eq] at this
    omega
  have ht : ∀ x ∈ (gT (some b)).ts, 0 ≤ x.am := fun x hx => by
    unfold mayB at hm
    simp only [Bool.and_eq_true] at hm
    have := tax_fits (by decide) hm.1.2 x hx
    omega
  have hv := may_vou hm
  obtain ⟨s, hs⟩ : ∃ s, some b = s := ⟨_, Eq.refl _⟩
  rw [hs] at h0 hc ht hv ⊢
  have b13 := it_inv (p := fun _ => True) evt_inv (n3 s) (q13 s) [] h0 (fun _ _ => trivial)
  have b12 := rnum_inv (k := 1) sz1 (st := q12 s) b13
  have b11 := rnum_inv (k := 1) sz1 (st := q11 s) b12
  have b10 := it_inv (p := fun x : Txx => 0 ≤ x.am) tax_inv (n2 s) (q10 s) _ b11 ht
  have b9 := rnum_inv (k := 1) sz1 (st := q9 s) b10
  have b8 := it_inv (p := fun x : Cpn => 0 ≤ x.va) cpn_inv (n1 s) (q8 s) _ b9 hc
  have b7 := rnum_inv (k := 1) sz1 (st := q7 s) b8
  have b6 := rnum_inv (k := 8) sz8 (st := q6 s) b7
  have b5 := rnum_inv (k := 8) sz8 (st := q5 s) b6
  have b4 := rnum_inv (k := 8) sz8 (st := q4 s) b5
  have b3 := rnum_inv (k := 8) sz8 (st := q3 s) b4
  have b2 := rnum_inv (k := 4) sz4 (st := q2 s) b3
  have b1 := (rest_inv (n := 6) (st := q1 s) b2).1
  have b0 := rnum_inv (k := 8) sz8 (st := s) b1
  have hw : IntKind.i64.wrap (rNumV (q6 s) 8 : Int) = (rNumV (q6 s) 8 : Int) := wrap_back (rNumV_lt (q6 s) 8) hv
  have f0 : (gT s).num.toNat = rNumV s 8 := Int.toNat_natCast _
  have f1 : (gT s).loc.data.toList = rBy (q1 s) 6 := List.toList_toArray
  have f2 : (gT s).iss.toNat = rNumV (q2 s) 4 := Int.toNat_natCast _
  have f3 : (gT s).prev.toNat = rNumV (q3 s) 8 := Int.toNat_natCast _
  have f4 : (gT s).org.toNat = rNumV (q4 s) 8 := Int.toNat_natCast _
  have f5 : (gT s).fst.toNat = rNumV (q5 s) 8 := Int.toNat_natCast _
  have f6 : (gT s).vou.toNat = rNumV (q6 s) 8 := by
    show (IntKind.i64.wrap (rNumV (q6 s) 8 : Int)).toNat = _
    rw [hw]; exact Int.toNat_natCast _
  have f7 : (gT s).cs.length = rNumV (q7 s) 1 := itL_length _ _ _ _
  have f8 : (gT s).ts.length = rNumV (q9 s) 1 := itL_length _ _ _ _
  have f9 : (gT s).posts.toNat = rNumV (q11 s) 1 := Int.toNat_natCast _
  have f10 : (gT s).hs.length = rNumV (q12 s) 1 := itL_length _ _ _ _
  have hb := Option.some.inj (hs.trans b0)
  rw [hb]
  unfold encT encH
  rw [f0, f1, f2, f3, f4, f5, f6, f7, f8, f9, f10]
  simp only [List.append_assoc, List.append_nil]
  exact Eq.refl _
theorem loc_six {t : Tk} (h : mayB t = true) : t.loc.data.toList.length = 6 := by
  unfold mayB headB at h
  simp only [Bool.and_eq_true] at h
  have hl := h.1.1.1.1.1.1.1.1.1.1.1.2
  unfold Num.loc at hl
  simp only [Bool.and_eq_true, decide_eq_true_eq] at hl
  exact hl.2
set_option maxHeartbeats 4000000 in
/-- a ticket's bytes are read as that ticket -/
theorem of_enc {t : Tk} (hm : mayB t = true) (hw : t.wf) : gT (some (encT t)) = t ∧ q14 (some (encT t)) = some [] := by
  have F := fits_of hm hw
  have h6 := loc_six hm
  obtain ⟨S, hS⟩ : ∃ S, some (Wire.be t.num.toNat 8 ++ (t.loc.data.toList ++ (Wire.be t.iss.toNat 4 ++ (Wire.be t.prev.toNat 8 ++ (Wire.be t.org.toNat 8 ++ (Wire.be t.fst.toNat 8 ++ (Wire.be t.vou.toNat 8 ++ (Wire.be t.cs.length 1 ++ (t.cs.flatMap encC ++ (Wire.be t.ts.length 1 ++ (t.ts.flatMap encX ++ (Wire.be t.posts.toNat 1 ++ (Wire.be t.hs.length 1 ++ (t.hs.flatMap encE ++ [])))))))))))))) = S := ⟨_, Eq.refl _⟩
  have hE : some (encT t) = S := by rw [← hS]; unfold encT encH; simp only [List.append_assoc, List.append_nil]
  rw [hE]
  have e0 : S = some (Wire.be t.num.toNat 8 ++ (t.loc.data.toList ++ (Wire.be t.iss.toNat 4 ++ (Wire.be t.prev.toNat 8 ++ (Wire.be t.org.toNat 8 ++ (Wire.be t.fst.toNat 8 ++ (Wire.be t.vou.toNat 8 ++ (Wire.be t.cs.length 1 ++ (t.cs.flatMap encC ++ (Wire.be t.ts.length 1 ++ (t.ts.flatMap encX ++ (Wire.be t.posts.toNat 1 ++ (Wire.be t.hs.length 1 ++ (t.hs.flatMap encE ++ [])))))))))))))) := hS.symm
  obtain ⟨v0, s0⟩ := num_fit t.num 8 _ (t.loc.data.toList ++ (Wire.be t.iss.toNat 4 ++ (Wire.be t.prev.toNat 8 ++ (Wire.be t.org.toNat 8 ++ (Wire.be t.fst.toNat 8 ++ (Wire.be t.vou.toNat 8 ++ (Wire.be t.cs.length 1 ++ (t.cs.flatMap encC ++ (Wire.be t.ts.length 1 ++ (t.ts.flatMap encX ++ (Wire.be t.posts.toNat 1 ++ (Wire.be t.hs.length 1 ++ (t.hs.flatMap encE ++ []))))))))))))) sz8 (by decide) F.num
  have w0 : ((rNumV (S) 8 : Nat) : Int) = t.num := by rw [e0]; exact v0
  have e1 : q1 S = some (t.loc.data.toList ++ (Wire.be t.iss.toNat 4 ++ (Wire.be t.prev.toNat 8 ++ (Wire.be t.org.toNat 8 ++ (Wire.be t.fst.toNat 8 ++ (Wire.be t.vou.toNat 8 ++ (Wire.be t.cs.length 1 ++ (t.cs.flatMap encC ++ (Wire.be t.ts.length 1 ++ (t.ts.flatMap encX ++ (Wire.be t.posts.toNat 1 ++ (Wire.be t.hs.length 1 ++ (t.hs.flatMap encE ++ []))))))))))))) := by show rNumS (S) 8 = _; rw [e0]; exact s0
  obtain ⟨v1, s1⟩ := rest_put t.loc.data.toList (Wire.be t.iss.toNat 4 ++ (Wire.be t.prev.toNat 8 ++ (Wire.be t.org.toNat 8 ++ (Wire.be t.fst.toNat 8 ++ (Wire.be t.vou.toNat 8 ++ (Wire.be t.cs.length 1 ++ (t.cs.flatMap encC ++ (Wire.be t.ts.length 1 ++ (t.ts.flatMap encX ++ (Wire.be t.posts.toNat 1 ++ (Wire.be t.hs.length 1 ++ (t.hs.flatMap encE ++ [])))))))))))) 6 h6
  have w1 : rBy (q1 S) 6 = t.loc.data.toList := by rw [e1]; exact v1
  have e2 : q2 S = some (Wire.be t.iss.toNat 4 ++ (Wire.be t.prev.toNat 8 ++ (Wire.be t.org.toNat 8 ++ (Wire.be t.fst.toNat 8 ++ (Wire.be t.vou.toNat 8 ++ (Wire.be t.cs.length 1 ++ (t.cs.flatMap encC ++ (Wire.be t.ts.length 1 ++ (t.ts.flatMap encX ++ (Wire.be t.posts.toNat 1 ++ (Wire.be t.hs.length 1 ++ (t.hs.flatMap encE ++ [])))))))))))) := by show rRest (q1 S) 6 = _; rw [e1]; exact s1
  obtain ⟨v2, s2⟩ := num_fit t.iss 4 _ (Wire.be t.prev.toNat 8 ++ (Wire.be t.org.toNat 8 ++ (Wire.be t.fst.toNat 8 ++ (Wire.be t.vou.toNat 8 ++ (Wire.be t.cs.length 1 ++ (t.cs.flatMap encC ++ (Wire.be t.ts.length 1 ++ (t.ts.flatMap encX ++ (Wire.be t.posts.toNat 1 ++ (Wire.be t.hs.length 1 ++ (t.hs.flatMap encE ++ []))))))))))) sz4 (by decide) F.iss
  have w2 : ((rNumV (q2 S) 4 : Nat) : Int) = t.iss := by rw [e2]; exact v2
  have e3 : q3 S = some (Wire.be t.prev.toNat 8 ++ (Wire.be t.org.toNat 8 ++ (Wire.be t.fst.toNat 8 ++ (Wire.be t.vou.toNat 8 ++ (Wire.be t.cs.length 1 ++ (t.cs.flatMap encC ++ (Wire.be t.ts.length 1 ++ (t.ts.flatMap encX ++ (Wire.be t.posts.toNat 1 ++ (Wire.be t.hs.length 1 ++ (t.hs.flatMap encE ++ []))))))))))) := by show rNumS (q2 S) 4 = _; rw [e2]; exact s2
  obtain ⟨v3, s3⟩ := num_fit t.prev 8 _ (Wire.be t.org.toNat 8 ++ (Wire.be t.fst.toNat 8 ++ (Wire.be t.vou.toNat 8 ++ (Wire.be t.cs.length 1 ++ (t.cs.flatMap encC ++ (Wire.be t.ts.length 1 ++ (t.ts.flatMap encX ++ (Wire.be t.posts.toNat 1 ++ (Wire.be t.hs.length 1 ++ (t.hs.flatMap encE ++ [])))))))))) sz8 (by decide) F.prev
  have w3 : ((rNumV (q3 S) 8 : Nat) : Int) = t.prev := by rw [e3]; exact v3
  have e4 : q4 S = some (Wire.be t.org.toNat 8 ++ (Wire.be t.fst.toNat 8 ++ (Wire.be t.vou.toNat 8 ++ (Wire.be t.cs.length 1 ++ (t.cs.flatMap encC ++ (Wire.be t.ts.length 1 ++ (t.ts.flatMap encX ++ (Wire.be t.posts.toNat 1 ++ (Wire.be t.hs.length 1 ++ (t.hs.flatMap encE ++ [])))))))))) := by show rNumS (q3 S) 8 = _; rw [e3]; exact s3
  obtain ⟨v4, s4⟩ := num_fit t.org 8 _ (Wire.be t.fst.toNat 8 ++ (Wire.be t.vou.toNat 8 ++ (Wire.be t.cs.length 1 ++ (t.cs.flatMap encC ++ (Wire.be t.ts.length 1 ++ (t.ts.flatMap encX ++ (Wire.be t.posts.toNat 1 ++ (Wire.be t.hs.length 1 ++ (t.hs.flatMap encE ++ []))))))))) sz8 (by decide) F.org
  have w4 : ((rNumV (q4 S) 8 : Nat) : Int) = t.org := by rw [e4]; exact v4
  have e5 : q5 S = some (Wire.be t.fst.toNat 8 ++ (Wire.be t.vou.toNat 8 ++ (Wire.be t.cs.length 1 ++ (t.cs.flatMap encC ++ (Wire.be t.ts.length 1 ++ (t.ts.flatMap encX ++ (Wire.be t.posts.toNat 1 ++ (Wire.be t.hs.length 1 ++ (t.hs.flatMap encE ++ []))))))))) := by show rNumS (q4 S) 8 = _; rw [e4]; exact s4
  obtain ⟨v5, s5⟩ := num_fit t.fst 8 _ (Wire.be t.vou.toNat 8 ++ (Wire.be t.cs.length 1 ++ (t.cs.flatMap encC ++ (Wire.be t.ts.length 1 ++ (t.ts.flatMap encX ++ (Wire.be t.posts.toNat 1 ++ (Wire.be t.hs.length 1 ++ (t.hs.flatMap encE ++ [])))))))) sz8 (by decide) F.fst
  have w5 : ((rNumV (q5 S) 8 : Nat) : Int) = t.fst := by rw [e5]; exact v5
  have e6 : q6 S = some (Wire.be t.vou.toNat 8 ++ (Wire.be t.cs.length 1 ++ (t.cs.flatMap encC ++ (Wire.be t.ts.length 1 ++ (t.ts.flatMap encX ++ (Wire.be t.posts.toNat 1 ++ (Wire.be t.hs.length 1 ++ (t.hs.flatMap encE ++ [])))))))) := by show rNumS (q5 S) 8 = _; rw [e5]; exact s5
  obtain ⟨v6, s6⟩ := rnum_put t.vou.toNat 8 (Wire.be t.cs.length 1 ++ (t.cs.flatMap encC ++ (Wire.be t.ts.length 1 ++ (t.ts.flatMap encX ++ (Wire.be t.posts.toNat 1 ++ (Wire.be t.hs.length 1 ++ (t.hs.flatMap encE ++ []))))))) sz8 (by have := F.vou.2; omega)
  have w6 : IntKind.i64.wrap ((rNumV (q6 S) 8 : Nat) : Int) = t.vou := by rw [e6, show rNumV _ 8 = _ from v6, wrap_nn F.vou.2, Int.toNat_of_nonneg F.vou.1]
  have e7 : q7 S = some (Wire.be t.cs.length 1 ++ (t.cs.flatMap encC ++ (Wire.be t.ts.length 1 ++ (t.ts.flatMap encX ++ (Wire.be t.posts.toNat 1 ++ (Wire.be t.hs.length 1 ++ (t.hs.flatMap encE ++ []))))))) := by show rNumS (q6 S) 8 = _; rw [e6]; exact s6
  obtain ⟨v7, s7⟩ := rnum_put t.cs.length 1 (t.cs.flatMap encC ++ (Wire.be t.ts.length 1 ++ (t.ts.flatMap encX ++ (Wire.be t.posts.toNat 1 ++ (Wire.be t.hs.length 1 ++ (t.hs.flatMap encE ++ [])))))) sz1 (by have := F.nc; have := F.nt; have := F.nh; omega)
  have w7 : rNumV (q7 S) 1 = t.cs.length := by rw [e7]; exact v7
  have e8 : q8 S = some (t.cs.flatMap encC ++ (Wire.be t.ts.length 1 ++ (t.ts.flatMap encX ++ (Wire.be t.posts.toNat 1 ++ (Wire.be t.hs.length 1 ++ (t.hs.flatMap encE ++ [])))))) := by show rNumS (q7 S) 1 = _; rw [e7]; exact s7
  obtain ⟨s8, v8⟩ := it_put (p := fitC) cpn_put t.cs (Wire.be t.ts.length 1 ++ (t.ts.flatMap encX ++ (Wire.be t.posts.toNat 1 ++ (Wire.be t.hs.length 1 ++ (t.hs.flatMap encE ++ []))))) F.cs
  have w8 : itL gC gCs (n1 S) (q8 S) = t.cs := by rw [show n1 S = t.cs.length from w7, e8]; exact v8
  have e9 : q9 S = some (Wire.be t.ts.length 1 ++ (t.ts.flatMap encX ++ (Wire.be t.posts.toNat 1 ++ (Wire.be t.hs.length 1 ++ (t.hs.flatMap encE ++ []))))) := by show itS gCs (n1 S) (q8 S) = _; rw [show n1 S = t.cs.length from w7, e8]; exact s8
  obtain ⟨v9, s9⟩ := rnum_put t.ts.length 1 (t.ts.flatMap encX ++ (Wire.be t.posts.toNat 1 ++ (Wire.be t.hs.length 1 ++ (t.hs.flatMap encE ++ [])))) sz1 (by have := F.nc; have := F.nt; have := F.nh; omega)
  have w9 : rNumV (q9 S) 1 = t.ts.length := by rw [e9]; exact v9
  have e10 : q10 S = some (t.ts.flatMap encX ++ (Wire.be t.posts.toNat 1 ++ (Wire.be t.hs.length 1 ++ (t.hs.flatMap encE ++ [])))) := by show rNumS (q9 S) 1 = _; rw [e9]; exact s9
  obtain ⟨s10, v10⟩ := it_put (p := fitX) tax_put t.ts (Wire.be t.posts.toNat 1 ++ (Wire.be t.hs.length 1 ++ (t.hs.flatMap encE ++ []))) F.ts
  have w10 : itL gX gXs (n2 S) (q10 S) = t.ts := by rw [show n2 S = t.ts.length from w9, e10]; exact v10
  have e11 : q11 S = some (Wire.be t.posts.toNat 1 ++ (Wire.be t.hs.length 1 ++ (t.hs.flatMap encE ++ []))) := by show itS gXs (n2 S) (q10 S) = _; rw [show n2 S = t.ts.length from w9, e10]; exact s10
  obtain ⟨v11, s11⟩ := num_fit t.posts 1 _ (Wire.be t.hs.length 1 ++ (t.hs.flatMap encE ++ [])) sz1 (by decide) F.posts
  have w11 : ((rNumV (q11 S) 1 : Nat) : Int) = t.posts := by rw [e11]; exact v11
  have e12 : q12 S = some (Wire.be t.hs.length 1 ++ (t.hs.flatMap encE ++ [])) := by show rNumS (q11 S) 1 = _; rw [e11]; exact s11
  obtain ⟨v12, s12⟩ := rnum_put t.hs.length 1 (t.hs.flatMap encE ++ []) sz1 (by have := F.nc; have := F.nt; have := F.nh; omega)
  have w12 : rNumV (q12 S) 1 = t.hs.length := by rw [e12]; exact v12
  have e13 : q13 S = some (t.hs.flatMap encE ++ []) := by show rNumS (q12 S) 1 = _; rw [e12]; exact s12
  obtain ⟨s13, v13⟩ := it_put (p := fitE) evt_put t.hs [] F.hs
  have w13 : itL gE gEs (n3 S) (q13 S) = t.hs := by rw [show n3 S = t.hs.length from w12, e13]; exact v13
  have e14 : q14 S = some [] := by show itS gEs (n3 S) (q13 S) = _; rw [show n3 S = t.hs.length from w12, e13]; exact s13
  refine ⟨?_, e14⟩
  unfold gT
  rw [show ((rNumV S 8 : Nat) : Int) = _ from w0, w1, show ((rNumV (q2 S) 4 : Nat) : Int) = _ from w2, show ((rNumV (q3 S) 8 : Nat) : Int) = _ from w3, show ((rNumV (q4 S) 8 : Nat) : Int) = _ from w4, show ((rNumV (q5 S) 8 : Nat) : Int) = _ from w5, w6, w8, w10, show ((rNumV (q11 S) 1 : Nat) : Int) = _ from w11, w13]
theorem ok_enc {t : Tk} (hm : mayB t = true) (hw : t.wf) : okT (encT t) = true ∧ ofT (encT t) = t := by
  obtain ⟨h1, h2⟩ := of_enc hm hw
  have hk : okT (encT t) = true := by unfold okT; rw [h1, h2, hm]; rfl
  refine ⟨hk, ?_⟩
  unfold ofT
  rw [if_pos hk, h1]
end Tkt
end Go.Proofs.Ytmadkfahkbdibaa
