/- Contracts: how a ticket's parts are put (the ways of the ticket package, with a writer). -/
import Derived.Test.YtmadkfahkbdibaaTkQ
import Derived.Test.YtmadkfahkbdibaaWirD
import Derived.Test.YtmadkfahkbdibaaWirK
set_option linter.unusedVariables false
set_option linter.unusedSimpArgs false
namespace Go.Proofs.Ytmadkfahkbdibaa
open Go.RowKit

section
variable {P : Program} {ops : Array Oper} {Q : Exit → Act → World → Prop} {md : Region.Mode} {C : World → Prop} {s0 : Nat}
/-- what yields in whatever world may be taken first, whatever is held -/
theorem wpAnyG_firstU {i : Nat} {oi : Oper} {v : Value} (hi : ops[i]? = some oi) (hsel : ∀ (j : Nat) (o : Oper) cs b, ops[j]? = some o → o.op ≠ .select cs b)
    (hQ : ∀ c a w, Q (.panic c) (a.put oi.dst v) w → Q (.panic c) a w) (hne : i ≠ s0) :
    ∀ (fuel : Nat) (listed : Array Bool) (a : Act) (w : World),
      (∀ j oj, ops[j]? = some oj → j ≠ i → listed.getD j true = false → (∀ e ∈ oj.after, Region.binds md e = true → e.on ≠ i) → oi.apart ops oj = true) →
      i ∈ Region.ready md ops listed → (C w ∨ (listed.setIfInBounds i true).getD s0 false = true) → YieldsIf P ops (fun _ => True) oi v a →
      wpAnyG P md ops Q C s0 fuel (listed.setIfInBounds i true) (a.put oi.dst v) w → wpAnyG P md ops Q C s0 (fuel + 1) listed a w := by
  intro fuel
  induction fuel with
  | zero =>
    intro listed a w _ hr hC hy H
    refine ⟨fun h => (by rw [h] at hr; cases hr), fun j hj => ?_⟩
    by_cases hji : j = i
    · subst hji; exact hy.wpOp hi trivial ⟨hC, H⟩
    · have := ready_mono hj hji
      rw [H.1] at this
      cases this
  | succ fuel ih =>
    intro listed a w hfree hr hC hy H
    refine ⟨fun h => (by rw [h] at hr; cases hr), fun j hj => ?_⟩
    by_cases hji : j = i
    · subst hji; exact hy.wpOp hi trivial ⟨hC, H⟩
    · have h1 := H.2 j (ready_mono hj hji)
      obtain ⟨hjun, oj, hoj, hall⟩ := mem_ready.1 hj
      have hnot : ∀ e ∈ oj.after, Region.binds md e = true → e.on ≠ i := fun e he hb heq => by
        have h1 := hall e he hb
        have h0 := (mem_ready.1 hr).1
        rw [heq] at h1
        rcases Nat.lt_or_ge i listed.size with h' | h'
        · simp [h'] at h0 h1; rw [h0] at h1; cases h1
        · simp [Array.getElem?_eq_none h'] at h1
      have h2 := wpOp_putIf hoj (hfree j oj hoj hji hjun hnot) (fun cs b => hsel i oi cs b hi) (fun cs b => hsel j oj cs b hoj) hQ hy h1
      have hfree' : ∀ k ok, ops[k]? = some ok → k ≠ i → (listed.setIfInBounds j true).getD k true = false →
          (∀ e ∈ ok.after, Region.binds md e = true → e.on ≠ i) → oi.apart ops ok = true := fun k ok hk hki hun hno => by
        refine hfree k ok hk hki ?_ hno
        by_cases hjk : j = k
        · subst hjk; exact hjun
        · rw [getD_set_ne true hjk] at hun; exact hun
      refine wpOp_mono (fun a' w' h3 => ?_) h2
      have e1 : ((listed.setIfInBounds i true).setIfInBounds j true) = ((listed.setIfInBounds j true).setIfInBounds i true) := Array.setIfInBounds_comm _ _ (Ne.symm hji)
      have hC1 : C w' ∨ ((listed.setIfInBounds j true).setIfInBounds i true).getD s0 false = true := by rw [← e1]; exact h3.2.1
      have hC2 : C w' ∨ (listed.setIfInBounds j true).getD s0 false = true := by rw [getD_set_ne false hne] at hC1; exact hC1
      refine ⟨hC2, ih (listed.setIfInBounds j true) a' w' hfree' (ready_mono hr (Ne.symm hji)) hC1 h3.1 ?_⟩
      rw [← e1]
      exact h3.2.2
theorem wpAnyG_takeU {i : Nat} {oi : Oper} {v : Value} {fuel : Nat} {listed : Array Bool} {a : Act} {w : World} (hi : ops[i]? = some oi)
    (hs : Region.noSelect ops = true) (hf : Region.free md ops listed i = true) (hr : (Region.ready md ops listed).contains i = true) (hne : i ≠ s0)
    (hQ : ∀ c a w, Q (.panic c) (a.put oi.dst v) w → Q (.panic c) a w) (hy : YieldsIf P ops (fun _ => True) oi v a)
    (hC : C w ∨ (listed.setIfInBounds i true).getD s0 false = true)
    (h : wpAnyG P md ops Q C s0 fuel (listed.setIfInBounds i true) (a.put oi.dst v) w) : wpAnyG P md ops Q C s0 (fuel + 1) listed a w :=
  wpAnyG_firstU hi (Region.noSelect_spec hs) hQ hne fuel listed a w (Region.free_spec hi hf) (by simpa using hr) hC hy h
/-- all of ms wait for i, or for one of them; s0 is one of them -/
def chainW (md : Region.Mode) (ops : Array Oper) (ms : List Nat) (i s0 : Nat) : Bool := ms.contains s0 && !ms.contains i && ms.all fun m => waitsB md ops m i || ms.any fun m' => waitsB md ops m m'
theorem chainW_spec {ms : List Nat} {i : Nat} (h : chainW md ops ms i s0 = true) : s0 ∈ ms ∧ i ∉ ms ∧ ∀ m ∈ ms, waitsB md ops m i = true ∨ ∃ m' ∈ ms, waitsB md ops m m' = true := by
  unfold chainW at h
  simp only [Bool.and_eq_true, List.all_eq_true, Bool.or_eq_true, List.any_eq_true, Bool.not_eq_true', List.contains_eq_mem, decide_eq_true_eq, decide_eq_false_iff_not] at h
  exact ⟨h.1.1, h.1.2, h.2⟩
def unlB (listed : Array Bool) (ms : List Nat) : Bool := ms.all fun m => !listed.getD m false
theorem unlB_spec {listed : Array Bool} {ms : List Nat} (h : unlB listed ms = true) : ∀ m ∈ ms, listed.getD m false = false := by
  unfold unlB at h
  simpa only [List.all_eq_true, Bool.not_eq_true'] using h
theorem unlB_of {listed : Array Bool} {ms : List Nat} (h : ∀ m ∈ ms, listed.getD m false = false) : unlB listed ms = true := by
  unfold unlB
  simpa only [List.all_eq_true, Bool.not_eq_true'] using h
theorem wpAnyG_firstM {i : Nat} {oi : Oper} {v : Value} (hi : ops[i]? = some oi) (hsel : ∀ (j : Nat) (o : Oper) cs b, ops[j]? = some o → o.op ≠ .select cs b)
    (hQ : ∀ c a w, Q (.panic c) (a.put oi.dst v) w → Q (.panic c) a w) {ms : List Nat} (hch : chainW md ops ms i s0 = true) :
    ∀ (fuel : Nat) (listed : Array Bool) (a : Act) (w : World),
      (∀ j oj, ops[j]? = some oj → j ≠ i → listed.getD j true = false → (∀ e ∈ oj.after, Region.binds md e = true → e.on ≠ i) → oi.apart ops oj = true) →
      i ∈ Region.ready md ops listed → unlB listed ms = true → YieldsIf P ops C oi v a → C w →
      wpAnyG P md ops Q C s0 fuel (listed.setIfInBounds i true) (a.put oi.dst v) w → wpAnyG P md ops Q C s0 (fuel + 1) listed a w := by
  obtain ⟨hs0, hni, hall0⟩ := chainW_spec hch
  have hne : i ≠ s0 := fun e => hni (e ▸ hs0)
  intro fuel
  induction fuel with
  | zero =>
    intro listed a w _ hr hl hy hS H
    refine ⟨fun h => (by rw [h] at hr; cases hr), fun j hj => ?_⟩
    by_cases hji : j = i
    · subst hji; exact hy.wpOp hi hS ⟨.inl hS, H⟩
    · have := ready_mono hj hji
      rw [H.1] at this
      cases this
  | succ fuel ih =>
    intro listed a w hfree hr hl hy hS H
    refine ⟨fun h => (by rw [h] at hr; cases hr), fun j hj => ?_⟩
    by_cases hji : j = i
    · subst hji; exact hy.wpOp hi hS ⟨.inl hS, H⟩
    · have h1 := H.2 j (ready_mono hj hji)
      obtain ⟨hjun, oj, hoj, hall⟩ := mem_ready.1 hj
      have hnot : ∀ e ∈ oj.after, Region.binds md e = true → e.on ≠ i := fun e he hb heq => by
        have h1 := hall e he hb
        have h0 := (mem_ready.1 hr).1
        rw [heq] at h1
        rcases Nat.lt_or_ge i listed.size with h' | h'
        · simp [h'] at h0 h1; rw [h0] at h1; cases h1
        · simp [Array.getElem?_eq_none h'] at h1
      have hl' := unlB_spec hl
      have hjm : j ∉ ms := fun hjm => by
        rcases hall0 j hjm with h | ⟨m', hm', h⟩
        · obtain ⟨os, hos, e0, he0, hb0, hon0⟩ := waitsB_spec h
          rw [hoj] at hos
          injection hos with hos
          subst hos
          exact hnot e0 he0 hb0 hon0
        · obtain ⟨os, hos, e0, he0, hb0, hon0⟩ := waitsB_spec h
          rw [hoj] at hos
          injection hos with hos
          subst hos
          have h1 := hall e0 he0 hb0
          have h0 := hl' m' hm'
          rw [hon0] at h1
          rcases Nat.lt_or_ge m' listed.size with h' | h'
          · simp [h'] at h0 h1; rw [h1] at h0; cases h0
          · simp [Array.getElem?_eq_none h'] at h1
      have hjs : j ≠ s0 := fun e => hjm (e ▸ hs0)
      have hl2 : ((listed.setIfInBounds i true).setIfInBounds j true).getD s0 false = false := by
        rw [getD_set_ne false hjs, getD_set_ne false hne]; exact hl' s0 hs0
      have hl1 : unlB (listed.setIfInBounds j true) ms = true := unlB_of fun m hm => by
        have hjm' : j ≠ m := fun e => by subst e; exact hjm hm
        rw [getD_set_ne false hjm']; exact hl' m hm
      have h2 := wpOp_putIf hoj (hfree j oj hoj hji hjun hnot) (fun cs b => hsel i oi cs b hi) (fun cs b => hsel j oj cs b hoj) hQ hy h1
      have hfree' : ∀ k ok, ops[k]? = some ok → k ≠ i → (listed.setIfInBounds j true).getD k true = false →
          (∀ e ∈ ok.after, Region.binds md e = true → e.on ≠ i) → oi.apart ops ok = true := fun k ok hk hki hun hno => by
        refine hfree k ok hk hki ?_ hno
        by_cases hjk : j = k
        · subst hjk; exact hjun
        · rw [getD_set_ne true hjk] at hun; exact hun
      refine wpOp_mono (fun a' w' h3 => ?_) h2
      have hC : C w' := by
        rcases h3.2.1 with h | h
        · exact h
        · rw [hl2] at h; cases h
      refine ⟨.inl hC, ih (listed.setIfInBounds j true) a' w' hfree' (ready_mono hr (Ne.symm hji)) hl1 h3.1 hC ?_⟩
      rw [Array.setIfInBounds_comm _ _ hji]
      exact h3.2.2

theorem wpAnyG_takeM {i : Nat} {oi : Oper} {v : Value} {fuel : Nat} {listed : Array Bool} {a : Act} {w : World} (hi : ops[i]? = some oi)
    (hs : Region.noSelect ops = true) (hf : Region.free md ops listed i = true) (hr : (Region.ready md ops listed).contains i = true) {ms : List Nat} (hch : chainW md ops ms i s0 = true) (hl : unlB listed ms = true)
    (hQ : ∀ c a w, Q (.panic c) (a.put oi.dst v) w → Q (.panic c) a w) (hy : YieldsIf P ops C oi v a) (hS : C w)
    (h : wpAnyG P md ops Q C s0 fuel (listed.setIfInBounds i true) (a.put oi.dst v) w) : wpAnyG P md ops Q C s0 (fuel + 1) listed a w :=
  wpAnyG_firstM hi (Region.noSelect_spec hs) hQ hch fuel listed a w (Region.free_spec hi hf) (by simpa using hr) hl hy hS h

end
/-- a cell that is written with what it holds -/
theorem setCell_id {w : World} {b o : Nat} {cs : Array Value} {t : TypeId} {v : Value} (h : w.heap[b]? = some (.cells cs t (0, 0))) (hv : cs[o]? = some v) : w.setCell ⟨b, o, none⟩ v = w := by
  have hh : (w.setCell ⟨b, o, none⟩ v).heap = w.heap := by
    apply Array.ext_getElem?
    intro i
    by_cases hi : i = b
    · subst hi
      rw [heap_setCell_same w i o cs t v h, h]
      have : cs.setIfInBounds o v = cs := by
        apply Array.ext_getElem?
        intro j
        by_cases hj : o = j
        · subst hj
          obtain ⟨h1, h2⟩ := Array.getElem?_eq_some_iff.1 hv
          rw [Array.getElem?_setIfInBounds_self_of_lt h1, hv]
        · rw [Array.getElem?_setIfInBounds_ne hj]
      rw [this]
    · exact heap_setCell_other w ⟨b, o, none⟩ i v hi
  have h2 : w.setCell ⟨b, o, none⟩ v = { w with heap := (w.setCell ⟨b, o, none⟩ v).heap } := rfl
  rw [h2, hh]
theorem Kept.row {T : List TypeId} {w w' : World} (h : Kept T w w') {g : Nat} {cs : Array Value} {t : TypeId} {fr : Nat × Nat} (hg : w.heap[g]? = some (.cells cs t fr)) (ht : t ∉ T) : w'.heap[g]? = some (.cells cs t fr) := h.block g cs t fr hg ht
theorem wnum_fit {l : List UInt8} {N s : Nat} (hs : s = 1 ∨ s = 2 ∨ s = 4 ∨ s = 8) (hN : N < 256 ^ s) : Wire.wNum (some l) N (s : Int) = some (l ++ Wire.be N s) := by
  rw [wnum_at (by rcases hs with rfl | rfl | rfl | rfl <;> rfl), if_pos (by simpa using hN)]
  rfl

set_option maxRecDepth 4000 in
set_option maxHeartbeats 2000000 in
theorem wlong_any (base bw k : Nat) (l : List UInt8) (N s : Nat) (hs : s = 1 ∨ s = 2 ∨ s = 4 ∨ s = 8) (hN : N < 256 ^ s) (hk : k + 9 ≤ 536870912) (w : World) (h : IsW w base bw k (some l)) (b o : Nat) (cs : Array Value) (ty : TypeId) (hrow : w.heap[b]? = some (.cells cs ty (0, 0))) (hc : cs[o]? = some (.int .u64 (N : Int))) :
    Calls Try.prog 126 #[.agg #[.pointer (some ⟨bw, 0, none⟩), .pointer none], .pointer (some ⟨b, o, none⟩), .int .i64 (s : Int)] w fun e w' => e = .returned (.tuple #[]) ∧ WStep w w' base bw (k + 9) (some (l ++ Wire.be N s)) := by
  have hN64 : N < 18446744073709551616 := Nat.lt_of_lt_of_le hN (by rcases hs with rfl | rfl | rfl | rfl <;> decide)
  have HFIT := Lib.hid (wnum_fit (l := l) hs hN)
  have HBL := Lib.hid h.lt
  have hb1 := ((Below.refl w.heap.size w).alloc (Nat.le_refl _) (.cells #[.pointer (some ⟨bw, 0, none⟩), .pointer none] 109 (0, 0)))
  have HB1 := Lib.hid hb1.drew
  have HW1 := Lib.hid (h.below hb1.drew)
  have hr1 : ((w.alloc (.cells #[.pointer (some ⟨bw, 0, none⟩), .pointer none] 109 (0, 0))).drew).heap[w.heap.size]? = some (.cells #[.pointer (some ⟨bw, 0, none⟩), .pointer none] 109 (0, 0)) := new_rowW _ _ _ rfl
  have hn1 : ((w.alloc (.cells #[.pointer (some ⟨bw, 0, none⟩), .pointer none] 109 (0, 0))).drew).heap[b]? = some (.cells cs ty (0, 0)) := row_after hrow
  have HC : Hid (((w.alloc (.cells #[.pointer (some ⟨bw, 0, none⟩), .pointer none] 109 (0, 0))).drew).cell? ⟨w.heap.size, 0, none⟩ = some (.pointer (some ⟨bw, 0, none⟩)) ∧ ((w.alloc (.cells #[.pointer (some ⟨bw, 0, none⟩), .pointer none] 109 (0, 0))).drew).cell? ⟨b, o, none⟩ = some (.int .u64 (N : Int))) := Lib.hid ⟨cell_of_row _ _ 0 _ _ _ hr1, (cell_of_row _ _ o _ _ _ hn1).trans hc⟩
  clear hb1 hr1 hn1 hrow hc hN hs h
  go_enter Try.func126, Try.ntmps126
  go_wp2_with fail
  refine wp_region_G (C := fun W => W.cell? ⟨w.heap.size, 0, none⟩ = some (.pointer (some ⟨bw, 0, none⟩)) ∧ W.cell? ⟨b, o, none⟩ = some (.int .u64 (N : Int))) (s0 := 6) (by kernel_rfl) ?_
  generalize (w.alloc (.cells #[.pointer (some ⟨bw, 0, none⟩), .pointer none] 109 (0, 0))).drew = w1 at *
  have hHeld := HC.out
  refine wpAnyG_takeU (i := 0) (oi := { dst := some 9, op := Op.fieldAddr 109 (Operand.tmp 3) 0, type := 0, pos := "ticket.go:119", after := #[], guard := none }) (v := ?_) rfl (by kernel_rfl) (by kernel_rfl) (by kernel_rfl) (by decide) (fun _ _ _ h => h) (Or.inl ⟨by rfl, ?_⟩) (by first | exact .inl (by assumption) | exact .inr rfl) ?_
  rotate_left
  · intro w hSw; go_simp; try with_reducible rfl
  try simp only [Act.put, List.setIfInBounds_toArray, List.set_cons_zero, List.set_cons_succ]
  refine wpAnyG_take (i := 1) (oi := { dst := some 10, op := Op.load 103 (Operand.tmp 9), type := 103, pos := "ticket.go:119", after := #[{ on := 0, ground := Ground.data }], guard := none }) (v := ?_) rfl (by kernel_rfl) (by kernel_rfl) (by kernel_rfl) (by decide) (by kernel_rfl) (by kernel_rfl) (fun _ _ _ h => h) (Or.inl ⟨by rfl, ?_⟩) (by assumption) ?_
  rotate_left
  · intro w hSw; (try dsimp only at hSw); go_simp; try with_reducible rfl
  try simp only [Act.put, List.setIfInBounds_toArray, List.set_cons_zero, List.set_cons_succ]
  refine wpAnyG_takeU (i := 2) (oi := { dst := some 11, op := Op.move (Operand.tmp 1), type := 154, pos := "ticket.go:119", after := #[], guard := none }) (v := ?_) rfl (by kernel_rfl) (by kernel_rfl) (by kernel_rfl) (by decide) (fun _ _ _ h => h) (Or.inl ⟨by rfl, ?_⟩) (by first | exact .inl (by assumption) | exact .inr rfl) ?_
  rotate_left
  · intro w hSw; go_simp; try with_reducible rfl
  try simp only [Act.put, List.setIfInBounds_toArray, List.set_cons_zero, List.set_cons_succ]
  refine wpAnyG_takeU (i := 3) (oi := { dst := some 12, op := Op.nilCheck (Operand.tmp 11), type := 0, pos := "ticket.go:119", after := #[{ on := 2, ground := Ground.data }], guard := none }) (v := ?_) rfl (by kernel_rfl) (by kernel_rfl) (by kernel_rfl) (by decide) (fun _ _ _ h => h) (Or.inl ⟨by rfl, ?_⟩) (by first | exact .inl (by assumption) | exact .inr rfl) ?_
  rotate_left
  · intro w hSw; go_simp; try with_reducible rfl
  try simp only [Act.put, List.setIfInBounds_toArray, List.set_cons_zero, List.set_cons_succ]
  refine wpAnyG_take (i := 4) (oi := { dst := some 13, op := Op.load 22 (Operand.tmp 12), type := 22, pos := "ticket.go:119", after := #[{ on := 3, ground := Ground.data }], guard := none }) (v := ?_) rfl (by kernel_rfl) (by kernel_rfl) (by kernel_rfl) (by decide) (by kernel_rfl) (by kernel_rfl) (fun _ _ _ h => h) (Or.inl ⟨by rfl, ?_⟩) (by assumption) ?_
  rotate_left
  · intro w hSw; (try dsimp only at hSw); go_simp; try with_reducible rfl
  try simp only [Act.put, List.setIfInBounds_toArray, List.set_cons_zero, List.set_cons_succ]
  refine wpAnyG_takeU (i := 5) (oi := { dst := some 14, op := Op.move (Operand.tmp 2), type := 3, pos := "ticket.go:119", after := #[], guard := none }) (v := ?_) rfl (by kernel_rfl) (by kernel_rfl) (by kernel_rfl) (by decide) (fun _ _ _ h => h) (Or.inl ⟨by rfl, ?_⟩) (by first | exact .inl (by assumption) | exact .inr rfl) ?_
  rotate_left
  · intro w hSw; go_simp; try with_reducible rfl
  try simp only [Act.put, List.setIfInBounds_toArray, List.set_cons_zero, List.set_cons_succ]
  refine wpAnyG_one (i := 6) (o := { dst := some 15, op := Op.call { callee := Callee.value (Operand.func 159), args := #[Operand.tmp 10, Operand.tmp 13, Operand.tmp 14], argTypes := #[103, 22, 3] }, type := 103, pos := "ticket.go:119", after := #[{ on := 1, ground := Ground.data }, { on := 4, ground := Ground.data }, { on := 5, ground := Ground.data }], guard := none }) (by kernel_rfl) rfl (fun K hK => ?_)
  go_simp
  go_at_call 159
  refine (wnumber_any base bw k (some l) N hN64 (s : Int) hk _ HW1.out).mono ?_
  rintro e w2 ⟨rfl, hst⟩
  rw [HFIT.out] at hst
  have HST := Lib.hid hst
  clear hst
  refine hK.out _ _ (.inr rfl) ?_
  clear hK K
  try simp only [Act.put, List.setIfInBounds_toArray, List.set_cons_zero, List.set_cons_succ]
  refine wpAnyG_done (by kernel_rfl) ?_ _
  clear hHeld HC
  go_wp2
  refine bodyPost_ret (results_none rfl _ _ _) rfl ?_
  exact ⟨rfl, WStep.pre HB1.out (by have := HBL.out; omega) HST.out⟩

set_option maxRecDepth 4000 in
set_option maxHeartbeats 2000000 in
theorem wwhole_any (base bw k : Nat) (l : List UInt8) (N s : Nat) (hs : s = 1 ∨ s = 2 ∨ s = 4 ∨ s = 8) (hN : N < 256 ^ s) (hN3 : N < 9223372036854775808) (hk : k + 9 ≤ 536870912) (w : World) (h : IsW w base bw k (some l)) (b o : Nat) (cs : Array Value) (ty : TypeId) (hrow : w.heap[b]? = some (.cells cs ty (0, 0))) (hty : ty ∉ WT) (hc : cs[o]? = some (.int .i64 (N : Int))) :
    Calls Try.prog 128 #[.agg #[.pointer (some ⟨bw, 0, none⟩), .pointer none], .pointer (some ⟨b, o, none⟩), .int .i64 (s : Int)] w fun e w' => e = .returned (.tuple #[]) ∧ WStep w w' base bw (k + 9) (some (l ++ Wire.be N s)) := by
  have hwu : IntKind.u64.wrap (N : Int) = (N : Int) := by rw [IntKind.wrap_u64]; omega
  have hwi : IntKind.i64.wrap (N : Int) = (N : Int) := by rw [IntKind.wrap_i64]; omega
  have hb1 := (((Below.refl w.heap.size w).alloc (Nat.le_refl _) (.cells #[.pointer (some ⟨bw, 0, none⟩), .pointer none] 109 (0, 0))).alloc (by simp) (.cells #[.int .u64 (N : Int)] 22 (0, 0)))
  have HB1 := Lib.hid hb1
  have HBL := Lib.hid h.lt
  have HW1 := Lib.hid (h.below hb1)
  have HR1 : Hid (((w.alloc (.cells #[.pointer (some ⟨bw, 0, none⟩), .pointer none] 109 (0, 0))).alloc (.cells #[.int .u64 (N : Int)] 22 (0, 0))).heap[w.heap.size]? = some (.cells #[.pointer (some ⟨bw, 0, none⟩), .pointer none] 109 (0, 0))) := Lib.hid (row_after (new_rowW _ _ _ rfl))
  have HM1 : Hid (((w.alloc (.cells #[.pointer (some ⟨bw, 0, none⟩), .pointer none] 109 (0, 0))).alloc (.cells #[.int .u64 (N : Int)] 22 (0, 0))).heap[w.heap.size + 1]? = some (.cells #[.int .u64 (N : Int)] 22 (0, 0))) := Lib.hid (new_rowW _ _ _ (by simp))
  have HN1 : Hid (((w.alloc (.cells #[.pointer (some ⟨bw, 0, none⟩), .pointer none] 109 (0, 0))).alloc (.cells #[.int .u64 (N : Int)] 22 (0, 0))).heap[b]? = some (.cells cs ty (0, 0))) := Lib.hid (row_after (row_after hrow))
  have c0 : w.cell? ⟨b, o, none⟩ = some (.int .i64 (N : Int)) := (cell_of_row _ _ o _ _ _ hrow).trans hc
  have hbl := block_lt hrow
  have HTY := Lib.hid hty; have HCC := Lib.hid hc; have HS := Lib.hid hs; have HNN := Lib.hid hN
  clear hb1 hrow hc h hty hs hN
  go_enter Try.func128, Try.ntmps128
  go_upto_region 2 with fail
  generalize ((w.alloc (.cells #[.pointer (some ⟨bw, 0, none⟩), .pointer none] 109 (0, 0))).alloc (.cells #[.int .u64 (N : Int)] 22 (0, 0))) = w1 at *
  clear c0 hbl
  have hcw := fun j => cell_of_row w1 w.heap.size j _ _ _ HR1.out
  go_wp2_with fail
  refine (wlong_any base bw k l N s HS.out HNN.out hk _ HW1.out (w.heap.size + 1) 0 _ _ HM1.out rfl).mono ?_
  rintro e w2 ⟨rfl, hst⟩
  have HM2 := Lib.hid (hst.2.2.row HM1.out (by decide))
  have HN2 := Lib.hid (hst.2.2.row HN1.out HTY.out)
  have HST := Lib.hid hst
  clear hst hcw
  have km := fun j => cell_of_row w2 (w.heap.size + 1) j _ _ _ HM2.out
  have kn : w2.cell? ⟨b, o, none⟩ = some (.int .i64 (N : Int)) := (cell_of_row _ _ o _ _ _ HN2.out).trans HCC.out
  have kf := fun j => frozen_of_row w2 b j _ _ HN2.out
  have HID := Lib.hid (setCell_id HN2.out HCC.out)
  go_wp2
  go_end0
  refine ⟨rfl, ?_⟩
  rw [HID.out]
  exact WStep.pre HB1.out (by have := HBL.out; omega) HST.out
end Go.Proofs.Ytmadkfahkbdibaa
