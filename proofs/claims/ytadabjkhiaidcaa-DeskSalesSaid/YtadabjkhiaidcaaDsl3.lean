/- Generic tools: regions that draw their order, with a condition held till one operation comes up; rows, boxes, results that lie in a block. -/
import Derived.Test.YtadabjkhiaidcaaDsl2
import Derived.Deep.RegionHeld

set_option linter.unusedVariables false
set_option linter.unusedSimpArgs false
namespace Go.Proofs.Ytadabjkhiaidcaa
open Go.RowKit Go.Deep

theorem below_drewN (w : World) (n : Nat) : Below w.heap.size w (w.drewN n) := ⟨rfl, rfl, rfl, Nat.le_refl _, fun _ _ => rfl⟩
theorem row_allocW {w : World} {g : Nat} {ob : Obj} (h : w.heap[g]? = some ob) (o : Obj) : (w.alloc o).heap[g]? = some ob := (Below.heap_alloc w o g (block_lt h)).trans h
theorem row_loT {w : World} {g : Nat} {cs : List Value} {e : TypeId} (n : Nat) (h : w.heap[g]? = some (.cells cs.toArray e (0, 0))) {ds : List Value} (hd : cs.take n = ds) (hn : ds.length = n) : loL n w g 0 = ds ∧ okL n w g 0 :=
  loL_of (fun j v hv => by
    rw [← hd] at hv
    have hj : j < n := by have := (List.getElem?_eq_some_iff.1 hv).1; rw [List.length_take] at this; omega
    rw [List.getElem?_take, if_pos hj] at hv
    rw [Nat.zero_add]
    exact (cell_of_row _ _ j _ _ _ h).trans (by rw [List.getElem?_toArray]; exact hv)) hn
theorem there_newT {w : World} {zs : List Value} {e : TypeId} {n : Nat} (h : zs.length = n) : (w.alloc (.cells zs.toArray e (0, 0))).there w.heap.size 0 n := fun j hj => by
  refine ⟨?_, ?_⟩
  · rw [cell_of_row _ _ _ _ _ _ (new_rowW w (.cells zs.toArray e (0, 0)) _ rfl)]; simp; omega
  · exact frozen_of_row _ _ _ _ _ (new_rowW w (.cells zs.toArray e (0, 0)) _ rfl)
section
variable {P : Program} {ops : Array Oper} {Q : Exit → Act → World → Prop} {md : Region.Mode} {C : World → Prop} {s0 : Nat}
/-- whatever order: C holds till operation s0 has come up -/
def wpAnyG (P : Program) (md : Region.Mode) (ops : Array Oper) (Q : Exit → Act → World → Prop) (C : World → Prop) (s0 : Nat) : Nat → Array Bool → Act → World → Prop
  | 0, listed, a, w => Region.ready md ops listed = [] ∧ Q .normal a w
  | fuel + 1, listed, a, w =>
    (Region.ready md ops listed = [] → Q .normal a w) ∧
    ∀ i ∈ Region.ready md ops listed, wpOp P ops Q i (fun a' w' => (C w' ∨ (listed.setIfInBounds i true).getD s0 false = true) ∧ wpAnyG P md ops Q C s0 fuel (listed.setIfInBounds i true) a' w') a w
theorem wpAny_of_G : ∀ (fuel : Nat) (listed : Array Bool) (a : Act) (w : World), wpAnyG P md ops Q C s0 fuel listed a w → wpAny P md ops Q fuel listed a w
  | 0, _, _, _, h => h
  | fuel + 1, _, _, _, h => ⟨h.1, fun i hi => wpOp_mono (fun a' w' h' => wpAny_of_G fuel _ a' w' h'.2) (h.2 i hi)⟩
/-- does s0 wait for i? -/
def waitsB (md : Region.Mode) (ops : Array Oper) (s0 i : Nat) : Bool := match ops[s0]? with | none => false | some os => os.after.any fun e => Region.binds md e && e.on == i
theorem waitsB_spec {i : Nat} (h : waitsB md ops s0 i = true) : ∃ os, ops[s0]? = some os ∧ ∃ e ∈ os.after, Region.binds md e = true ∧ e.on = i := by
  unfold waitsB at h
  split at h
  · cases h
  · rename_i os ho
    obtain ⟨e, he, h2⟩ := Array.any_eq_true'.1 h
    rw [Bool.and_eq_true, beq_iff_eq] at h2
    exact ⟨os, ho, e, he, h2.1, h2.2⟩
theorem wpAnyG_first {i : Nat} {oi : Oper} {v : Value} (hi : ops[i]? = some oi) (hsel : ∀ (j : Nat) (o : Oper) cs b, ops[j]? = some o → o.op ≠ .select cs b)
    (hQ : ∀ c a w, Q (.panic c) (a.put oi.dst v) w → Q (.panic c) a w) (hne : i ≠ s0) (hw0 : waitsB md ops s0 i = true) :
    ∀ (fuel : Nat) (listed : Array Bool) (a : Act) (w : World),
      (∀ j oj, ops[j]? = some oj → j ≠ i → listed.getD j true = false → (∀ e ∈ oj.after, Region.binds md e = true → e.on ≠ i) → oi.apart ops oj = true) →
      i ∈ Region.ready md ops listed → listed.getD s0 false = false → YieldsIf P ops C oi v a → C w →
      wpAnyG P md ops Q C s0 fuel (listed.setIfInBounds i true) (a.put oi.dst v) w → wpAnyG P md ops Q C s0 (fuel + 1) listed a w := by
  obtain ⟨os, hos, e0, he0, hb0, hon0⟩ := waitsB_spec hw0
  intro fuel
  induction fuel with
  | zero =>
    intro listed a w _ hr hl hy hS H
    refine ⟨fun h => (by rw [h] at hr; cases hr), fun j hj => ?_⟩
    by_cases hji : j = i
    · subst hji; exact hy.wpOp hi hS ⟨.inl hS, H⟩
    · have := ready_mono hj hji
      rw [H.1] at this
      cases this
  | succ fuel ih =>
    intro listed a w hfree hr hl hy hS H
    refine ⟨fun h => (by rw [h] at hr; cases hr), fun j hj => ?_⟩
    by_cases hji : j = i
    · subst hji; exact hy.wpOp hi hS ⟨.inl hS, H⟩
    · have h1 := H.2 j (ready_mono hj hji)
      obtain ⟨hjun, oj, hoj, hall⟩ := mem_ready.1 hj
      have hnot : ∀ e ∈ oj.after, Region.binds md e = true → e.on ≠ i := fun e he hb heq => by
        have h1 := hall e he hb
        have h0 := (mem_ready.1 hr).1
        rw [heq] at h1
        rcases Nat.lt_or_ge i listed.size with h' | h'
        · simp [h'] at h0 h1; rw [h0] at h1; cases h1
        · simp [Array.getElem?_eq_none h'] at h1
      have hjs : j ≠ s0 := fun e => by
        subst e
        rw [hoj] at hos
        injection hos with hos
        subst hos
        exact hnot e0 he0 hb0 hon0
      have hl2 : ((listed.setIfInBounds i true).setIfInBounds j true).getD s0 false = false := by
        rw [getD_set_ne false hjs, getD_set_ne false hne]; exact hl
      have hl1 : (listed.setIfInBounds j true).getD s0 false = false := by rw [getD_set_ne false hjs]; exact hl
      have h2 := wpOp_putIf hoj (hfree j oj hoj hji hjun hnot) (fun cs b => hsel i oi cs b hi) (fun cs b => hsel j oj cs b hoj) hQ hy h1
      have hfree' : ∀ k ok, ops[k]? = some ok → k ≠ i → (listed.setIfInBounds j true).getD k true = false →
          (∀ e ∈ ok.after, Region.binds md e = true → e.on ≠ i) → oi.apart ops ok = true := fun k ok hk hki hun hno => by
        refine hfree k ok hk hki ?_ hno
        by_cases hjk : j = k
        · subst hjk; exact hjun
        · rw [getD_set_ne true hjk] at hun; exact hun
      refine wpOp_mono (fun a' w' h3 => ?_) h2
      have hC : C w' := by
        rcases h3.2.1 with h | h
        · exact h
        · rw [hl2] at h; cases h
      refine ⟨.inl hC, ih (listed.setIfInBounds j true) a' w' hfree' (ready_mono hr (Ne.symm hji)) hl1 h3.1 hC ?_⟩
      rw [Array.setIfInBounds_comm _ _ hji]
      exact h3.2.2
theorem wpAnyG_take {i : Nat} {oi : Oper} {v : Value} {fuel : Nat} {listed : Array Bool} {a : Act} {w : World} (hi : ops[i]? = some oi)
    (hs : Region.noSelect ops = true) (hf : Region.free md ops listed i = true) (hr : (Region.ready md ops listed).contains i = true) (hne : i ≠ s0) (hw0 : waitsB md ops s0 i = true) (hl : listed.getD s0 false = false)
    (hQ : ∀ c a w, Q (.panic c) (a.put oi.dst v) w → Q (.panic c) a w) (hy : YieldsIf P ops C oi v a) (hS : C w)
    (h : wpAnyG P md ops Q C s0 fuel (listed.setIfInBounds i true) (a.put oi.dst v) w) : wpAnyG P md ops Q C s0 (fuel + 1) listed a w :=
  wpAnyG_first hi (Region.noSelect_spec hs) hQ hne hw0 fuel listed a w (Region.free_spec hi hf) (by simpa using hr) hl hy hS h
/-- just one may come up -/
theorem wpAnyG_one {i : Nat} {o : Oper} {fuel : Nat} {listed : Array Bool} {a : Act} {w : World} (hr : Region.ready md ops listed = [i]) (ho : ops[i]? = some o)
    (h : ∀ K' : Act → World → Prop, Shut (∀ a w, (C w ∨ (listed.setIfInBounds i true).getD s0 false = true) → wpAnyG P md ops Q C s0 fuel (listed.setIfInBounds i true) a w → K' a w) → if Region.wanted o (yielded ops a.tmps) = true then Oper.wp P o a w K' Q else K' (a.put o.dst undef) w) :
    wpAnyG P md ops Q C s0 (fuel + 1) listed a w := by
  refine ⟨fun h0 => (by rw [hr] at h0; cases h0), fun j hj => ?_⟩
  rw [hr] at hj
  obtain rfl := List.mem_singleton.1 hj
  exact wpOp_step ho (fun K' hK => h K' (fun a w hS hW => hK a w ⟨hS, hW⟩))
theorem wpAnyG_done {listed : Array Bool} {a : Act} {w : World} (hr : Region.ready md ops listed = []) (h : Q .normal a w) :
    ∀ fuel, wpAnyG P md ops Q C s0 fuel listed a w
  | 0 => ⟨hr, h⟩
  | _ + 1 => ⟨fun _ => h, by rw [hr]; simp⟩
theorem wp_region_G {id : Nat} {a : Act} {w : World} (hm : P.follows .mixedOrders = true)
    (h : wpAnyG P .any ops Q C s0 ops.size (Array.replicate ops.size false) a w.drew) : (Code.region id ops true).wp P Q a w :=
  wp_region_any hm (wpAny_of_G _ _ _ _ h)
end
theorem own_monoT {w : World} {base b0 e n m : Nat} {v : Value} {xs : List Value} (h : w.ownsRow base e n v m xs) (h0 : b0 ≤ base) : w.ownsRow b0 e n v m xs := by
  obtain ⟨hlen, hor⟩ := h
  refine ⟨hlen, ?_⟩
  rcases hor with h | ⟨g, cap, cur, rfl, hg, rest⟩
  · exact .inl h
  · exact .inr ⟨g, cap, cur, rfl, Nat.le_trans h0 hg, rest⟩
theorem rec_formT {w : World} {base e n m : Nat} {v : Value} {xs : List Value} (h : w.ownsRow base e n v m xs) : ∃ q c, v = .slice q m c := by
  obtain ⟨-, ⟨rfl, rfl⟩ | ⟨g, cap, cur, rfl, -⟩⟩ := h
  · exact ⟨_, _, rfl⟩
  · exact ⟨_, _, rfl⟩
theorem results_cellT {fn : Func} {a : Tmp} {ty : TypeId} {cs : Array Value} {P : Program} (h : fn.results = #[.cell a ty]) (tmps : Array Value) (w : World) (g : Nat) (hg : tmps.getD a undef = .pointer (some ⟨g, 0, none⟩)) (hl : (loadVar ty ⟨g, 0, none⟩).run P w = .ok (.agg cs) w) :
    (results fn tmps).run P w = .ok (.agg cs) w := by
  simp at hg
  simp [results, h, Sem.run_bind, hg, asAddr, hl]
theorem results_cellT2 {fn : Func} {a b : Tmp} {ty : TypeId} {cs : Array Value} {P : Program} (h : fn.results = #[.cell a ty, .tmp b]) (tmps : Array Value) (w : World) (g : Nat) (hg : tmps.getD a undef = .pointer (some ⟨g, 0, none⟩)) (hl : (loadVar ty ⟨g, 0, none⟩).run P w = .ok (.agg cs) w) :
    (results fn tmps).run P w = .ok (.tuple #[.agg cs, tmps.getD b undef]) w := by
  simp at hg
  simp [results, h, Sem.run_bind, hg, asAddr, hl]
theorem there_rowT {w : World} {g : Nat} {zs : List Value} {e : TypeId} {n : Nat} (hg : w.heap[g]? = some (.cells zs.toArray e (0, 0))) (h : zs.length = n) : w.there g 0 n := fun j hj => by
  refine ⟨?_, ?_⟩
  · rw [cell_of_row _ _ _ _ _ _ hg]; simp; omega
  · exact frozen_of_row _ _ _ _ _ hg
theorem setCells_rowT {g : Nat} {e : TypeId} : ∀ {cs zs : List Value} {w : World}, w.heap[g]? = some (.cells zs.toArray e (0, 0)) → zs.length = cs.length → (w.setCells g 0 cs).heap[g]? = some (.cells cs.toArray e (0, 0)) := by
  have key : ∀ (cs pre zs : List Value) (w : World), w.heap[g]? = some (.cells (pre ++ zs).toArray e (0, 0)) → zs.length = cs.length → (w.setCells g pre.length cs).heap[g]? = some (.cells (pre ++ cs).toArray e (0, 0)) := by
    intro cs
    induction cs with
    | nil => intro pre zs w h hl; rw [List.length_eq_zero_iff.1 hl] at h; exact h
    | cons c cs ih =>
      intro pre zs w h hl
      cases zs with
      | nil => cases hl
      | cons z zs =>
        rw [World.setCells]
        have h2 := heap_setCell_same w g pre.length _ _ c h
        have e1 : ((pre ++ z :: zs).toArray.setIfInBounds pre.length c) = ((pre ++ [c]) ++ zs).toArray := by
          rw [List.setIfInBounds_toArray, List.set_append_right _ _ (Nat.le_refl _), Nat.sub_self, List.set_cons_zero, List.append_assoc]; rfl
        rw [e1] at h2
        have := ih (pre ++ [c]) zs _ h2 (by simpa using hl)
        rw [List.length_append, List.append_assoc] at this
        exact this
  intro cs zs w h hl
  exact key cs [] zs w h hl
theorem own_neT {w : World} {base e e' n m g : Nat} {v : Value} {xs : List Value} {cs : Array Value} {fr : Nat × Nat} (h : w.ownsRow base e n v m xs) (hg : w.heap[g]? = some (.cells cs e' fr)) (hne : e ≠ e') : ∀ b, v.ownBlock = some b → b ≠ g := by
  intro b hb he
  subst he
  obtain ⟨-, ⟨rfl, -⟩ | ⟨k, cap, cur, rfl, hk, hh, -⟩⟩ := h
  · cases hb
  · injection hb with hb
    simp only at hb
    subst hb
    rw [hg] at hh
    injection hh with hh
    injection hh with h1 h2 h3
    exact hne h2.symm
section
variable {α : Type} {enc : α → List Value} {n : Nat}
theorem encL_setT (hn : ∀ x, (enc x).length = n) {j : Nat} {u : Value} {x x' : α} (hj : j < n) (he : enc x' = (enc x).set j u) : ∀ {l : List α} {i : Nat}, l[i]? = some x → (encL enc l).set (i * n + j) u = encL enc (l.set i x') := by
  intro l
  induction l with
  | nil => intro i h; cases h
  | cons y l ih =>
    intro i h
    cases i with
    | zero =>
      rw [List.getElem?_cons_zero] at h
      injection h with h
      subst h
      rw [List.set_cons_zero, encL, encL, List.flatMap_cons, List.flatMap_cons, he, Nat.zero_mul, Nat.zero_add, List.set_append_left _ _ (by rw [hn]; exact hj)]
    | succ i =>
      rw [List.getElem?_cons_succ] at h
      rw [List.set_cons_succ, encL, encL, List.flatMap_cons, List.flatMap_cons, List.set_append_right _ _ (by rw [hn, Nat.succ_mul]; omega)]
      have e1 : (i + 1) * n + j - (enc y).length = i * n + j := by rw [hn, Nat.succ_mul]; omega
      rw [e1]
      exact congrArg _ (ih h)
theorem own_cellT (hn : ∀ x, (enc x).length = n) {w : World} {base e m b cap i j : Nat} {l : List α} {x : α} (h : w.ownsRow base e n (.slice (some ⟨b, 0, none⟩) m cap) m (encL enc l)) (hx : l[i]? = some x) (hj : j < n) :
    w.cell? ⟨b, i * n + j, none⟩ = (enc x)[j]? ∧ w.frozen? ⟨b, i * n + j, none⟩ = false := by
  obtain ⟨hlen, hor⟩ := h
  rcases hor with ⟨hh, -⟩ | ⟨g, c2, cur, e1, hg, hh, hnc, hcm, hcs, htk⟩
  · cases hh
  · injection e1 with e1 e2 e3
    injection e1 with e1
    injection e1 with e1
    subst e1
    have hi : i < l.length := (List.getElem?_eq_some_iff.1 hx).1
    have hm : l.length = m := by
      rw [encL_length hn] at hlen
      exact Nat.eq_of_mul_eq_mul_right (by omega) hlen
    have hlt : i * n + j < m * n := by
      have : (i + 1) * n ≤ m * n := Nat.mul_le_mul_right n (by omega)
      rw [Nat.succ_mul] at this
      omega
    refine ⟨?_, ?_⟩
    · rw [cell_of_row _ _ _ _ _ _ hh, ← encL_at hn hx hj, ← htk, List.getElem?_take, if_pos hlt, Array.getElem?_toList]
    · exact frozen_of_row _ _ _ _ _ hh
theorem own_setCellT (hn : ∀ x, (enc x).length = n) {w : World} {base e m b cap i j : Nat} {l : List α} {x x' : α} {u : Value} (h : w.ownsRow base e n (.slice (some ⟨b, 0, none⟩) m cap) m (encL enc l)) (hx : l[i]? = some x) (hj : j < n) (he : enc x' = (enc x).set j u) :
    (w.setCell ⟨b, i * n + j, none⟩ u).ownsRow base e n (.slice (some ⟨b, 0, none⟩) m cap) m (encL enc (l.set i x')) := by
  obtain ⟨hlen, hor⟩ := h
  refine ⟨by rw [← encL_setT hn hj he hx, List.length_set, hlen], ?_⟩
  rcases hor with ⟨hh, -⟩ | ⟨g, c2, cur, e1, hg, hh, hnc, hcm, hcs, htk⟩
  · cases hh
  · injection e1 with e1 e2 e3
    injection e1 with e1
    injection e1 with e1
    subst e1; subst e3
    refine .inr ⟨b, cap, _, rfl, hg, heap_setCell_same _ _ _ _ _ _ hh, hnc, hcm, by simp [hcs], ?_⟩
    rw [← encL_setT hn hj he hx, ← htk, Array.toList_setIfInBounds, List.take_set]
end
theorem own_someT {w : World} {base e n m : Nat} {v : Value} {xs : List Value} (h : w.ownsRow base e n v m xs) (h0 : 0 < m) : ∃ b c, v = .slice (some ⟨b, 0, none⟩) m c := by
  obtain ⟨-, ⟨rfl, rfl⟩ | ⟨g, cap, cur, rfl, -⟩⟩ := h
  · omega
  · exact ⟨_, _, rfl⟩
theorem own_apartT {w w' : World} {base e e' n n' m m' : Nat} {v u : Value} {xs ys : List Value} (h : w.ownsRow base e n v m xs) (k : w.ownsRow base e' n' u m' ys) (hg : w.grownBy w' u.ownBlock) (hne : e ≠ e') : w'.ownsRow base e n v m xs := by
  refine h.kept hg ?_
  rcases h.2 with ⟨rfl, _⟩ | ⟨g, cap, cur, rfl, _, hh, _⟩
  · exact .inl rfl
  · rcases k.2 with ⟨rfl, _⟩ | ⟨g', cap', cur', rfl, _, hh', _⟩
    · exact .inr (by simp [Value.ownBlock])
    · refine .inr fun e1 => hne ?_
      simp [Value.ownBlock] at e1
      subst e1
      rw [hh] at hh'
      injection hh' with hh'
      injection hh'
theorem own_rowT {w : World} {base e n m b c : Nat} {xs : List Value} (h : w.ownsRow base e n (.slice (some ⟨b, 0, none⟩) m c) m xs) : ∃ cs, w.heap[b]? = some (.cells cs e (0, 0)) := by
  obtain ⟨-, ⟨hh, -⟩ | ⟨g, cap, cur, e1, hg, hh, -⟩⟩ := h
  · cases hh
  · injection e1 with e1 e2 e3
    injection e1 with e1
    injection e1 with e1
    subst e1
    exact ⟨cur, hh⟩
theorem list_set_same {α : Type} {l : List α} {k : Nat} {x : α} (h : l[k]? = some x) : l.set k x = l := by
  obtain ⟨h1, h2⟩ := List.getElem?_eq_some_iff.1 h
  subst h2
  exact List.set_getElem_self h1
theorem own_updT {α : Type} {enc : α → List Value} {n : Nat} (hn : ∀ x, (enc x).length = n) {w : World} {base e m b cap k j : Nat} {l : List α} {x x' : α} {u : Value} (h : w.ownsRow base e n (.slice (some ⟨b, 0, none⟩) m cap) m (encL enc (l.set k x))) (hk : k < l.length) (hj : j < n) (he : enc x' = (enc x).set j u) :
    (w.setCell ⟨b, k * n + j, none⟩ u).ownsRow base e n (.slice (some ⟨b, 0, none⟩) m cap) m (encL enc (l.set k x')) := by
  have := own_setCellT hn h (x := x) (x' := x') (i := k) (by rw [List.getElem?_set_self hk]) hj he
  rwa [List.set_set] at this
theorem row_drewT {w : World} {g : Nat} {o : Obj} (h : w.heap[g]? = some o) : w.drew.heap[g]? = some o := h
section
variable {P : Program} {ops : Array Oper} {Q : Exit → Act → World → Prop} {md : Region.Mode} {C : World → Prop} {s0 : Nat}
/-- what yields in whatever world may be taken first, whatever is held -/
theorem wpAnyG_firstU {i : Nat} {oi : Oper} {v : Value} (hi : ops[i]? = some oi) (hsel : ∀ (j : Nat) (o : Oper) cs b, ops[j]? = some o → o.op ≠ .select cs b)
    (hQ : ∀ c a w, Q (.panic c) (a.put oi.dst v) w → Q (.panic c) a w) (hne : i ≠ s0) :
    ∀ (fuel : Nat) (listed : Array Bool) (a : Act) (w : World),
      (∀ j oj, ops[j]? = some oj → j ≠ i → listed.getD j true = false → (∀ e ∈ oj.after, Region.binds md e = true → e.on ≠ i) → oi.apart ops oj = true) →
      i ∈ Region.ready md ops listed → (C w ∨ (listed.setIfInBounds i true).getD s0 false = true) → YieldsIf P ops (fun _ => True) oi v a →
      wpAnyG P md ops Q C s0 fuel (listed.setIfInBounds i true) (a.put oi.dst v) w → wpAnyG P md ops Q C s0 (fuel + 1) listed a w := by
  intro fuel
  induction fuel with
  | zero =>
    intro listed a w _ hr hC hy H
    refine ⟨fun h => (by rw [h] at hr; cases hr), fun j hj => ?_⟩
    by_cases hji : j = i
    · subst hji; exact hy.wpOp hi trivial ⟨hC, H⟩
    · have := ready_mono hj hji
      rw [H.1] at this
      cases this
  | succ fuel ih =>
    intro listed a w hfree hr hC hy H
    refine ⟨fun h => (by rw [h] at hr; cases hr), fun j hj => ?_⟩
    by_cases hji : j = i
    · subst hji; exact hy.wpOp hi trivial ⟨hC, H⟩
    · have h1 := H.2 j (ready_mono hj hji)
      obtain ⟨hjun, oj, hoj, hall⟩ := mem_ready.1 hj
      have hnot : ∀ e ∈ oj.after, Region.binds md e = true → e.on ≠ i := fun e he hb heq => by
        have h1 := hall e he hb
        have h0 := (mem_ready.1 hr).1
        rw [heq] at h1
        rcases Nat.lt_or_ge i listed.size with h' | h'
        · simp [h'] at h0 h1; rw [h0] at h1; cases h1
        · simp [Array.getElem?_eq_none h'] at h1
      have h2 := wpOp_putIf hoj (hfree j oj hoj hji hjun hnot) (fun cs b => hsel i oi cs b hi) (fun cs b => hsel j oj cs b hoj) hQ hy h1
      have hfree' : ∀ k ok, ops[k]? = some ok → k ≠ i → (listed.setIfInBounds j true).getD k true = false →
          (∀ e ∈ ok.after, Region.binds md e = true → e.on ≠ i) → oi.apart ops ok = true := fun k ok hk hki hun hno => by
        refine hfree k ok hk hki ?_ hno
        by_cases hjk : j = k
        · subst hjk; exact hjun
        · rw [getD_set_ne true hjk] at hun; exact hun
      refine wpOp_mono (fun a' w' h3 => ?_) h2
      have e1 : ((listed.setIfInBounds i true).setIfInBounds j true) = ((listed.setIfInBounds j true).setIfInBounds i true) := Array.setIfInBounds_comm _ _ (Ne.symm hji)
      have hC1 : C w' ∨ ((listed.setIfInBounds j true).setIfInBounds i true).getD s0 false = true := by rw [← e1]; exact h3.2.1
      have hC2 : C w' ∨ (listed.setIfInBounds j true).getD s0 false = true := by rw [getD_set_ne false hne] at hC1; exact hC1
      refine ⟨hC2, ih (listed.setIfInBounds j true) a' w' hfree' (ready_mono hr (Ne.symm hji)) hC1 h3.1 ?_⟩
      rw [← e1]
      exact h3.2.2
theorem wpAnyG_takeU {i : Nat} {oi : Oper} {v : Value} {fuel : Nat} {listed : Array Bool} {a : Act} {w : World} (hi : ops[i]? = some oi)
    (hs : Region.noSelect ops = true) (hf : Region.free md ops listed i = true) (hr : (Region.ready md ops listed).contains i = true) (hne : i ≠ s0)
    (hQ : ∀ c a w, Q (.panic c) (a.put oi.dst v) w → Q (.panic c) a w) (hy : YieldsIf P ops (fun _ => True) oi v a)
    (hC : C w ∨ (listed.setIfInBounds i true).getD s0 false = true)
    (h : wpAnyG P md ops Q C s0 fuel (listed.setIfInBounds i true) (a.put oi.dst v) w) : wpAnyG P md ops Q C s0 (fuel + 1) listed a w :=
  wpAnyG_firstU hi (Region.noSelect_spec hs) hQ hne fuel listed a w (Region.free_spec hi hf) (by simpa using hr) hC hy h
/-- all of ms wait for i, or for one of them; s0 is one of them -/
def chainW (md : Region.Mode) (ops : Array Oper) (ms : List Nat) (i s0 : Nat) : Bool := ms.contains s0 && !ms.contains i && ms.all fun m => waitsB md ops m i || ms.any fun m' => waitsB md ops m m'
theorem chainW_spec {ms : List Nat} {i : Nat} (h : chainW md ops ms i s0 = true) : s0 ∈ ms ∧ i ∉ ms ∧ ∀ m ∈ ms, waitsB md ops m i = true ∨ ∃ m' ∈ ms, waitsB md ops m m' = true := by
  unfold chainW at h
  simp only [Bool.and_eq_true, List.all_eq_true, Bool.or_eq_true, List.any_eq_true, Bool.not_eq_true', List.contains_eq_mem, decide_eq_true_eq, decide_eq_false_iff_not] at h
  exact ⟨h.1.1, h.1.2, h.2⟩
def unlB (listed : Array Bool) (ms : List Nat) : Bool := ms.all fun m => !listed.getD m false
theorem unlB_spec {listed : Array Bool} {ms : List Nat} (h : unlB listed ms = true) : ∀ m ∈ ms, listed.getD m false = false := by
  unfold unlB at h
  simpa only [List.all_eq_true, Bool.not_eq_true'] using h
theorem unlB_of {listed : Array Bool} {ms : List Nat} (h : ∀ m ∈ ms, listed.getD m false = false) : unlB listed ms = true := by
  unfold unlB
  simpa only [List.all_eq_true, Bool.not_eq_true'] using h
theorem wpAnyG_firstM {i : Nat} {oi : Oper} {v : Value} (hi : ops[i]? = some oi) (hsel : ∀ (j : Nat) (o : Oper) cs b, ops[j]? = some o → o.op ≠ .select cs b)
    (hQ : ∀ c a w, Q (.panic c) (a.put oi.dst v) w → Q (.panic c) a w) {ms : List Nat} (hch : chainW md ops ms i s0 = true) :
    ∀ (fuel : Nat) (listed : Array Bool) (a : Act) (w : World),
      (∀ j oj, ops[j]? = some oj → j ≠ i → listed.getD j true = false → (∀ e ∈ oj.after, Region.binds md e = true → e.on ≠ i) → oi.apart ops oj = true) →
      i ∈ Region.ready md ops listed → unlB listed ms = true → YieldsIf P ops C oi v a → C w →
      wpAnyG P md ops Q C s0 fuel (listed.setIfInBounds i true) (a.put oi.dst v) w → wpAnyG P md ops Q C s0 (fuel + 1) listed a w := by
  obtain ⟨hs0, hni, hall0⟩ := chainW_spec hch
  have hne : i ≠ s0 := fun e => hni (e ▸ hs0)
  intro fuel
  induction fuel with
  | zero =>
    intro listed a w _ hr hl hy hS H
    refine ⟨fun h => (by rw [h] at hr; cases hr), fun j hj => ?_⟩
    by_cases hji : j = i
    · subst hji; exact hy.wpOp hi hS ⟨.inl hS, H⟩
    · have := ready_mono hj hji
      rw [H.1] at this
      cases this
  | succ fuel ih =>
    intro listed a w hfree hr hl hy hS H
    refine ⟨fun h => (by rw [h] at hr; cases hr), fun j hj => ?_⟩
    by_cases hji : j = i
    · subst hji; exact hy.wpOp hi hS ⟨.inl hS, H⟩
    · have h1 := H.2 j (ready_mono hj hji)
      obtain ⟨hjun, oj, hoj, hall⟩ := mem_ready.1 hj
      have hnot : ∀ e ∈ oj.after, Region.binds md e = true → e.on ≠ i := fun e he hb heq => by
        have h1 := hall e he hb
        have h0 := (mem_ready.1 hr).1
        rw [heq] at h1
        rcases Nat.lt_or_ge i listed.size with h' | h'
        · simp [h'] at h0 h1; rw [h0] at h1; cases h1
        · simp [Array.getElem?_eq_none h'] at h1
      have hl' := unlB_spec hl
      have hjm : j ∉ ms := fun hjm => by
        rcases hall0 j hjm with h | ⟨m', hm', h⟩
        · obtain ⟨os, hos, e0, he0, hb0, hon0⟩ := waitsB_spec h
          rw [hoj] at hos
          injection hos with hos
          subst hos
          exact hnot e0 he0 hb0 hon0
        · obtain ⟨os, hos, e0, he0, hb0, hon0⟩ := waitsB_spec h
          rw [hoj] at hos
          injection hos with hos
          subst hos
          have h1 := hall e0 he0 hb0
          have h0 := hl' m' hm'
          rw [hon0] at h1
          rcases Nat.lt_or_ge m' listed.size with h' | h'
          · simp [h'] at h0 h1; rw [h1] at h0; cases h0
          · simp [Array.getElem?_eq_none h'] at h1
      have hjs : j ≠ s0 := fun e => hjm (e ▸ hs0)
      have hl2 : ((listed.setIfInBounds i true).setIfInBounds j true).getD s0 false = false := by
        rw [getD_set_ne false hjs, getD_set_ne false hne]; exact hl' s0 hs0
      have hl1 : unlB (listed.setIfInBounds j true) ms = true := unlB_of fun m hm => by
        have hjm' : j ≠ m := fun e => by subst e; exact hjm hm
        rw [getD_set_ne false hjm']; exact hl' m hm
      have h2 := wpOp_putIf hoj (hfree j oj hoj hji hjun hnot) (fun cs b => hsel i oi cs b hi) (fun cs b => hsel j oj cs b hoj) hQ hy h1
      have hfree' : ∀ k ok, ops[k]? = some ok → k ≠ i → (listed.setIfInBounds j true).getD k true = false →
          (∀ e ∈ ok.after, Region.binds md e = true → e.on ≠ i) → oi.apart ops ok = true := fun k ok hk hki hun hno => by
        refine hfree k ok hk hki ?_ hno
        by_cases hjk : j = k
        · subst hjk; exact hjun
        · rw [getD_set_ne true hjk] at hun; exact hun
      refine wpOp_mono (fun a' w' h3 => ?_) h2
      have hC : C w' := by
        rcases h3.2.1 with h | h
        · exact h
        · rw [hl2] at h; cases h
      refine ⟨.inl hC, ih (listed.setIfInBounds j true) a' w' hfree' (ready_mono hr (Ne.symm hji)) hl1 h3.1 hC ?_⟩
      rw [Array.setIfInBounds_comm _ _ hji]
      exact h3.2.2
theorem wpAnyG_takeM {i : Nat} {oi : Oper} {v : Value} {fuel : Nat} {listed : Array Bool} {a : Act} {w : World} (hi : ops[i]? = some oi)
    (hs : Region.noSelect ops = true) (hf : Region.free md ops listed i = true) (hr : (Region.ready md ops listed).contains i = true) {ms : List Nat} (hch : chainW md ops ms i s0 = true) (hl : unlB listed ms = true)
    (hQ : ∀ c a w, Q (.panic c) (a.put oi.dst v) w → Q (.panic c) a w) (hy : YieldsIf P ops C oi v a) (hS : C w)
    (h : wpAnyG P md ops Q C s0 fuel (listed.setIfInBounds i true) (a.put oi.dst v) w) : wpAnyG P md ops Q C s0 (fuel + 1) listed a w :=
  wpAnyG_firstM hi (Region.noSelect_spec hs) hQ hch fuel listed a w (Region.free_spec hi hf) (by simpa using hr) hl hy hS h
end
/-- a cell that is written with what it holds -/
theorem setCell_id {w : World} {b o : Nat} {cs : Array Value} {t : TypeId} {v : Value} (h : w.heap[b]? = some (.cells cs t (0, 0))) (hv : cs[o]? = some v) : w.setCell ⟨b, o, none⟩ v = w := by
  have hh : (w.setCell ⟨b, o, none⟩ v).heap = w.heap := by
    apply Array.ext_getElem?
    intro i
    by_cases hi : i = b
    · subst hi
      rw [heap_setCell_same w i o cs t v h, h]
      have : cs.setIfInBounds o v = cs := by
        apply Array.ext_getElem?
        intro j
        by_cases hj : o = j
        · subst hj
          obtain ⟨h1, h2⟩ := Array.getElem?_eq_some_iff.1 hv
          rw [Array.getElem?_setIfInBounds_self_of_lt h1, hv]
        · rw [Array.getElem?_setIfInBounds_ne hj]
      rw [this]
    · exact heap_setCell_other w ⟨b, o, none⟩ i v hi
  have h2 : w.setCell ⟨b, o, none⟩ v = { w with heap := (w.setCell ⟨b, o, none⟩ v).heap } := rfl
  rw [h2, hh]
theorem Kept.row {T : List TypeId} {w w' : World} (h : Kept T w w') {g : Nat} {cs : Array Value} {t : TypeId} {fr : Nat × Nat} (hg : w.heap[g]? = some (.cells cs t fr)) (ht : t ∉ T) : w'.heap[g]? = some (.cells cs t fr) := h.block g cs t fr hg ht
theorem putRec {W : World} {e : TypeId} {zs cs : List Value} (h : zs.length = cs.length) : ((W.alloc (.cells zs.toArray e (0, 0))).setCells W.heap.size 0 cs).heap[W.heap.size]? = some (.cells cs.toArray e (0, 0)) ∧ Below W.heap.size W ((W.alloc (.cells zs.toArray e (0, 0))).setCells W.heap.size 0 cs) :=
  ⟨setCells_rowT (new_rowW _ _ _ rfl) h, Only.below ((Below.refl _ _).alloc (Nat.le_refl _) _) (Nat.le_refl _) (by simp) ((Only.refl W.heap.size _).setCells 0 _)⟩
theorem row_neT {w : World} {b g : Nat} {cs ds : Array Value} {e e' : TypeId} {fr fr' : Nat × Nat} (h : w.heap[b]? = some (.cells cs e fr)) (hg : w.heap[g]? = some (.cells ds e' fr')) (hne : e ≠ e') : b ≠ g := by
  intro hb
  subst hb
  rw [h] at hg
  injection hg with hg
  injection hg with h1 h2 h3
  exact hne h2
theorem cutK {J G : Prop} (h : J → G) (k : J) : G := h k
section
variable {P : Program} {ops : Array Oper} {Q : Exit → Act → World → Prop} {md : Region.Mode} {C : World → Prop} {s0 : Nat}
/-- just two may come up -/
theorem wpAnyG_two {i j : Nat} {oi oj : Oper} {fuel : Nat} {listed : Array Bool} {a : Act} {w : World} (hr : Region.ready md ops listed = [i, j]) (hi : ops[i]? = some oi) (hj : ops[j]? = some oj)
    (h1 : ∀ K' : Act → World → Prop, Shut (∀ a w, (C w ∨ (listed.setIfInBounds i true).getD s0 false = true) → wpAnyG P md ops Q C s0 fuel (listed.setIfInBounds i true) a w → K' a w) → if Region.wanted oi (yielded ops a.tmps) = true then Oper.wp P oi a w K' Q else K' (a.put oi.dst undef) w)
    (h2 : ∀ K' : Act → World → Prop, Shut (∀ a w, (C w ∨ (listed.setIfInBounds j true).getD s0 false = true) → wpAnyG P md ops Q C s0 fuel (listed.setIfInBounds j true) a w → K' a w) → if Region.wanted oj (yielded ops a.tmps) = true then Oper.wp P oj a w K' Q else K' (a.put oj.dst undef) w) :
    wpAnyG P md ops Q C s0 (fuel + 1) listed a w := by
  refine ⟨fun h0 => (by rw [hr] at h0; cases h0), fun k hk => ?_⟩
  rw [hr] at hk
  rcases List.mem_cons.1 hk with rfl | hk
  · exact wpOp_step hi (fun K' hK => h1 K' (fun a w hS hW => hK a w ⟨hS, hW⟩))
  · obtain rfl := List.mem_singleton.1 hk
    exact wpOp_step hj (fun K' hK => h2 K' (fun a w hS hW => hK a w ⟨hS, hW⟩))
end
theorem recs_only {w w' : World} {base e n m g : Nat} {v : Value} {xs : List Value} (h : w.ownsRow base e n v m xs) (hne : ∀ b, v.ownBlock = some b → b ≠ g) (hw : Only g w w') : w'.ownsRow base e n v m xs := recs_keep h fun b hb hlt => hw.block b hlt (hne b hb)
end Go.Proofs.Ytadabjkhiaidcaa
