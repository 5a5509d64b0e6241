/- A region that draws its order, whose loads read cells that its own last stores write: the loads are taken first; what the loads read is held till the first store. And: contracts of Clone for a ticket's lists. -/
import Derived.Test.YtmadkfahkbdibaaTkM
import Derived.Deep.RegionHeld
set_option linter.unusedVariables false
set_option linter.unusedSimpArgs false
namespace Go.Proofs.Ytmadkfahkbdibaa
open Go.RowKit

section
variable {P : Program} {ops : Array Oper} {Q : Exit → Act → World → Prop} {md : Region.Mode} {C : World → Prop} {s0 : Nat}

/-- whatever order: C holds till operation s0 has come up -/
def wpAnyG (P : Program) (md : Region.Mode) (ops : Array Oper) (Q : Exit → Act → World → Prop) (C : World → Prop) (s0 : Nat) : Nat → Array Bool → Act → World → Prop
  | 0, listed, a, w => Region.ready md ops listed = [] ∧ Q .normal a w
  | fuel + 1, listed, a, w =>
    (Region.ready md ops listed = [] → Q .normal a w) ∧
    ∀ i ∈ Region.ready md ops listed, wpOp P ops Q i (fun a' w' => (C w' ∨ (listed.setIfInBounds i true).getD s0 false = true) ∧ wpAnyG P md ops Q C s0 fuel (listed.setIfInBounds i true) a' w') a w

theorem wpAny_of_G : ∀ (fuel : Nat) (listed : Array Bool) (a : Act) (w : World), wpAnyG P md ops Q C s0 fuel listed a w → wpAny P md ops Q fuel listed a w
  | 0, _, _, _, h => h
  | fuel + 1, _, _, _, h => ⟨h.1, fun i hi => wpOp_mono (fun a' w' h' => wpAny_of_G fuel _ a' w' h'.2) (h.2 i hi)⟩

/-- does s0 wait for i? -/
def waitsB (md : Region.Mode) (ops : Array Oper) (s0 i : Nat) : Bool := match ops[s0]? with | none => false | some os => os.after.any fun e => Region.binds md e && e.on == i
theorem waitsB_spec {i : Nat} (h : waitsB md ops s0 i = true) : ∃ os, ops[s0]? = some os ∧ ∃ e ∈ os.after, Region.binds md e = true ∧ e.on = i := by
  unfold waitsB at h
  split at h
  · cases h
  · rename_i os ho
    obtain ⟨e, he, h2⟩ := Array.any_eq_true'.1 h
    rw [Bool.and_eq_true, beq_iff_eq] at h2
    exact ⟨os, ho, e, he, h2.1, h2.2⟩

theorem wpAnyG_first {i : Nat} {oi : Oper} {v : Value} (hi : ops[i]? = some oi) (hsel : ∀ (j : Nat) (o : Oper) cs b, ops[j]? = some o → o.op ≠ .select cs b)
    (hQ : ∀ c a w, Q (.panic c) (a.put oi.dst v) w → Q (.panic c) a w) (hne : i ≠ s0) (hw0 : waitsB md ops s0 i = true) :
    ∀ (fuel : Nat) (listed : Array Bool) (a : Act) (w : World),
      (∀ j oj, ops[j]? = some oj → j ≠ i → listed.getD j true = false → (∀ e ∈ oj.after, Region.binds md e = true → e.on ≠ i) → oi.apart ops oj = true) →
      i ∈ Region.ready md ops listed → listed.getD s0 false = false → YieldsIf P ops C oi v a → C w →
      wpAnyG P md ops Q C s0 fuel (listed.setIfInBounds i true) (a.put oi.dst v) w → wpAnyG P md ops Q C s0 (fuel + 1) listed a w := by
  obtain ⟨os, hos, e0, he0, hb0, hon0⟩ := waitsB_spec hw0
  intro fuel
  induction fuel with
  | zero =>
    intro listed a w _ hr hl hy hS H
    refine ⟨fun h => (by rw [h] at hr; cases hr), fun j hj => ?_⟩
    by_cases hji : j = i
    · subst hji; exact hy.wpOp hi hS ⟨.inl hS, H⟩
    · have := ready_mono hj hji
      rw [H.1] at this
      cases this
  | succ fuel ih =>
    intro listed a w hfree hr hl hy hS H
    refine ⟨fun h => (by rw [h] at hr; cases hr), fun j hj => ?_⟩
    by_cases hji : j = i
    · subst hji; exact hy.wpOp hi hS ⟨.inl hS, H⟩
    · have h1 := H.2 j (ready_mono hj hji)
      obtain ⟨hjun, oj, hoj, hall⟩ := mem_ready.1 hj
      have hnot : ∀ e ∈ oj.after, Region.binds md e = true → e.on ≠ i := fun e he hb heq => by
        have h1 := hall e he hb
        have h0 := (mem_ready.1 hr).1
        rw [heq] at h1
        rcases Nat.lt_or_ge i listed.size with h' | h'
        · simp [h'] at h0 h1; rw [h0] at h1; cases h1
        · simp [Array.getElem?_eq_none h'] at h1
      have hjs : j ≠ s0 := fun e => by
        subst e
        rw [hoj] at hos
        injection hos with hos
        subst hos
        exact hnot e0 he0 hb0 hon0
      have hl2 : ((listed.setIfInBounds i true).setIfInBounds j true).getD s0 false = false := by
        rw [getD_set_ne false hjs, getD_set_ne false hne]; exact hl
      have hl1 : (listed.setIfInBounds j true).getD s0 false = false := by rw [getD_set_ne false hjs]; exact hl
      have h2 := wpOp_putIf hoj (hfree j oj hoj hji hjun hnot) (fun cs b => hsel i oi cs b hi) (fun cs b => hsel j oj cs b hoj) hQ hy h1
      have hfree' : ∀ k ok, ops[k]? = some ok → k ≠ i → (listed.setIfInBounds j true).getD k true = false →
          (∀ e ∈ ok.after, Region.binds md e = true → e.on ≠ i) → oi.apart ops ok = true := fun k ok hk hki hun hno => by
        refine hfree k ok hk hki ?_ hno
        by_cases hjk : j = k
        · subst hjk; exact hjun
        · rw [getD_set_ne true hjk] at hun; exact hun
      refine wpOp_mono (fun a' w' h3 => ?_) h2
      have hC : C w' := by
        rcases h3.2.1 with h | h
        · exact h
        · rw [hl2] at h; cases h
      refine ⟨.inl hC, ih (listed.setIfInBounds j true) a' w' hfree' (ready_mono hr (Ne.symm hji)) hl1 h3.1 hC ?_⟩
      rw [Array.setIfInBounds_comm _ _ hji]
      exact h3.2.2

theorem wpAnyG_take {i : Nat} {oi : Oper} {v : Value} {fuel : Nat} {listed : Array Bool} {a : Act} {w : World} (hi : ops[i]? = some oi)
    (hs : Region.noSelect ops = true) (hf : Region.free md ops listed i = true) (hr : (Region.ready md ops listed).contains i = true) (hne : i ≠ s0) (hw0 : waitsB md ops s0 i = true) (hl : listed.getD s0 false = false)
    (hQ : ∀ c a w, Q (.panic c) (a.put oi.dst v) w → Q (.panic c) a w) (hy : YieldsIf P ops C oi v a) (hS : C w)
    (h : wpAnyG P md ops Q C s0 fuel (listed.setIfInBounds i true) (a.put oi.dst v) w) : wpAnyG P md ops Q C s0 (fuel + 1) listed a w :=
  wpAnyG_first hi (Region.noSelect_spec hs) hQ hne hw0 fuel listed a w (Region.free_spec hi hf) (by simpa using hr) hl hy hS h

/-- just one may come up -/
theorem wpAnyG_one {i : Nat} {o : Oper} {fuel : Nat} {listed : Array Bool} {a : Act} {w : World} (hr : Region.ready md ops listed = [i]) (ho : ops[i]? = some o)
    (h : ∀ K' : Act → World → Prop, Shut (∀ a w, (C w ∨ (listed.setIfInBounds i true).getD s0 false = true) → wpAnyG P md ops Q C s0 fuel (listed.setIfInBounds i true) a w → K' a w) → if Region.wanted o (yielded ops a.tmps) = true then Oper.wp P o a w K' Q else K' (a.put o.dst undef) w) :
    wpAnyG P md ops Q C s0 (fuel + 1) listed a w := by
  refine ⟨fun h0 => (by rw [hr] at h0; cases h0), fun j hj => ?_⟩
  rw [hr] at hj
  obtain rfl := List.mem_singleton.1 hj
  exact wpOp_step ho (fun K' hK => h K' (fun a w hS hW => hK a w ⟨hS, hW⟩))
theorem wpAnyG_done {listed : Array Bool} {a : Act} {w : World} (hr : Region.ready md ops listed = []) (h : Q .normal a w) :
    ∀ fuel, wpAnyG P md ops Q C s0 fuel listed a w
  | 0 => ⟨hr, h⟩
  | _ + 1 => ⟨fun _ => h, by rw [hr]; simp⟩
theorem wp_region_G {id : Nat} {a : Act} {w : World} (hm : P.follows .mixedOrders = true)
    (h : wpAnyG P .any ops Q C s0 ops.size (Array.replicate ops.size false) a w.drew) : (Code.region id ops true).wp P Q a w :=
  wp_region_any hm (wpAny_of_G _ _ _ _ h)
end

theorem own_monoT {w : World} {base b0 e n m : Nat} {v : Value} {xs : List Value} (h : w.ownsRow base e n v m xs) (h0 : b0 ≤ base) : w.ownsRow b0 e n v m xs := by
  obtain ⟨hlen, hor⟩ := h
  refine ⟨hlen, ?_⟩
  rcases hor with h | ⟨g, cap, cur, rfl, hg, rest⟩
  · exact .inl h
  · exact .inr ⟨g, cap, cur, rfl, Nat.le_trans h0 hg, rest⟩
theorem elemTx : Elem Try.prog Txx.cells 2 16 24 48 := Elem.of Try.underlying24 (by kernel_rfl) (by decide) (by decide) Txx.cells_length Txx.cells_one
theorem elemEv : Elem Try.prog Evt.cells 4 32 25 46 := Elem.of Try.underlying25 (by kernel_rfl) (by decide) (by decide) Evt.cells_length Evt.cells_one

set_option maxRecDepth 4000 in
set_option maxHeartbeats 400000 in
theorem cloneCp_any (v : Value) (l : List Cpn) (hl : l.length ≤ 1073741824) (w : World) (hv : LS Cpn.cells 6 w v l) :
    Calls Try.prog 113 #[v] w fun e w' => ∃ v', e = .returned v' ∧ w'.ownsRow w.heap.size 44 6 v' l.length (encL Cpn.cells l) ∧ Below w.heap.size w w' := by
  have HV := Lib.hid hv
  obtain ⟨p, cap, rfl, h1, h2, h3⟩ := hv
  have hq := fun (W : World) => (Lib.run_eql_slice_nil (P := Try.prog) W _ _ p l.length cap 0 0 Try.underlying23)
  have H3 := Lib.hid h3; clear h3
  cases p with
  | none =>
    have hl0 : l = [] := by
      by_cases hl : l = []
      · exact hl
      · obtain ⟨b, o, h, _⟩ := H3.out hl; cases h
    subst hl0
    simp only [List.length_nil] at *
    go_enter Try.func113, Try.ntmps113
    go_wp2
    go_ret
    exact ⟨_, rfl, World.ownsRow_nil _ _ _ _, Below.refl _ _⟩
  | some ad =>
    generalize hn : l.length = n at *
    have HN := Lib.hid hn; clear hn
    go_enter Try.func113, Try.ntmps113
    go_wp2_with (at_builtin; refine wpList_append_recs elemCp rfl _ _ rfl w.heap.size _ 0 [] rfl (recs_of_row (new_rowW _ _ _ rfl) (Nat.le_refl _)) _ l rfl (HV.out.alloc _) (by have := HN.out; omega) (by simp) ?_; intro v1 w1 hown1 hg1 hn1 hat1)
    have HO : Hid (w1.ownsRow w.heap.size 44 6 v1 n (encL Cpn.cells l)) := Lib.hid (by have := hown1; rw [Nat.zero_add, HN.out] at this; exact this)
    have HB : Hid (Below w.heap.size w w1) := Lib.hid (((Below.refl w.heap.size w).alloc (Nat.le_refl _) _).grown hg1 (by simp) (fun b hb => by injection hb with hb; simp at hb; omega))
    clear hown1 hg1 hn1 hat1
    go_wp2
    go_ret
    exact ⟨_, rfl, HO.out, HB.out⟩

set_option maxRecDepth 4000 in
set_option maxHeartbeats 400000 in
theorem cloneTx_any (v : Value) (l : List Txx) (hl : l.length ≤ 1073741824) (w : World) (hv : LS Txx.cells 2 w v l) :
    Calls Try.prog 81 #[v] w fun e w' => ∃ v', e = .returned v' ∧ w'.ownsRow w.heap.size 48 2 v' l.length (encL Txx.cells l) ∧ Below w.heap.size w w' := by
  have HV := Lib.hid hv
  obtain ⟨p, cap, rfl, h1, h2, h3⟩ := hv
  have hq := fun (W : World) => (Lib.run_eql_slice_nil (P := Try.prog) W _ _ p l.length cap 0 0 Try.underlying24)
  have H3 := Lib.hid h3; clear h3
  cases p with
  | none =>
    have hl0 : l = [] := by
      by_cases hl : l = []
      · exact hl
      · obtain ⟨b, o, h, _⟩ := H3.out hl; cases h
    subst hl0
    simp only [List.length_nil] at *
    go_enter Try.func81, Try.ntmps81
    go_wp2
    go_ret
    exact ⟨_, rfl, World.ownsRow_nil _ _ _ _, Below.refl _ _⟩
  | some ad =>
    generalize hn : l.length = n at *
    have HN := Lib.hid hn; clear hn
    go_enter Try.func81, Try.ntmps81
    go_wp2_with (at_builtin; refine wpList_append_recs elemTx rfl _ _ rfl w.heap.size _ 0 [] rfl (recs_of_row (new_rowW _ _ _ rfl) (Nat.le_refl _)) _ l rfl (HV.out.alloc _) (by have := HN.out; omega) (by simp) ?_; intro v1 w1 hown1 hg1 hn1 hat1)
    have HO : Hid (w1.ownsRow w.heap.size 48 2 v1 n (encL Txx.cells l)) := Lib.hid (by have := hown1; rw [Nat.zero_add, HN.out] at this; exact this)
    have HB : Hid (Below w.heap.size w w1) := Lib.hid (((Below.refl w.heap.size w).alloc (Nat.le_refl _) _).grown hg1 (by simp) (fun b hb => by injection hb with hb; simp at hb; omega))
    clear hown1 hg1 hn1 hat1
    go_wp2
    go_ret
    exact ⟨_, rfl, HO.out, HB.out⟩

set_option maxRecDepth 4000 in
set_option maxHeartbeats 400000 in
theorem cloneEv_any (v : Value) (l : List Evt) (hl : l.length ≤ 1073741824) (w : World) (hv : LS Evt.cells 4 w v l) :
    Calls Try.prog 114 #[v] w fun e w' => ∃ v', e = .returned v' ∧ w'.ownsRow w.heap.size 46 4 v' l.length (encL Evt.cells l) ∧ Below w.heap.size w w' := by
  have HV := Lib.hid hv
  obtain ⟨p, cap, rfl, h1, h2, h3⟩ := hv
  have hq := fun (W : World) => (Lib.run_eql_slice_nil (P := Try.prog) W _ _ p l.length cap 0 0 Try.underlying25)
  have H3 := Lib.hid h3; clear h3
  cases p with
  | none =>
    have hl0 : l = [] := by
      by_cases hl : l = []
      · exact hl
      · obtain ⟨b, o, h, _⟩ := H3.out hl; cases h
    subst hl0
    simp only [List.length_nil] at *
    go_enter Try.func114, Try.ntmps114
    go_wp2
    go_ret
    exact ⟨_, rfl, World.ownsRow_nil _ _ _ _, Below.refl _ _⟩
  | some ad =>
    generalize hn : l.length = n at *
    have HN := Lib.hid hn; clear hn
    go_enter Try.func114, Try.ntmps114
    go_wp2_with (at_builtin; refine wpList_append_recs elemEv rfl _ _ rfl w.heap.size _ 0 [] rfl (recs_of_row (new_rowW _ _ _ rfl) (Nat.le_refl _)) _ l rfl (HV.out.alloc _) (by have := HN.out; omega) (by simp) ?_; intro v1 w1 hown1 hg1 hn1 hat1)
    have HO : Hid (w1.ownsRow w.heap.size 46 4 v1 n (encL Evt.cells l)) := Lib.hid (by have := hown1; rw [Nat.zero_add, HN.out] at this; exact this)
    have HB : Hid (Below w.heap.size w w1) := Lib.hid (((Below.refl w.heap.size w).alloc (Nat.le_refl _) _).grown hg1 (by simp) (fun b hb => by injection hb with hb; simp at hb; omega))
    clear hown1 hg1 hn1 hat1
    go_wp2
    go_ret
    exact ⟨_, rfl, HO.out, HB.out⟩
end Go.Proofs.Ytmadkfahkbdibaa
