/- A region that draws its order: a law by what each operation leaves, whatever the order (one goal an operation; no orders are gone through). Contract: desk.post. -/
import Derived.Test.YtadabjkhiaidcaaDsl3
import Derived.Test.YtadabjkhiaidcaaDsl37
import Derived.Test.YtadabjkhiaidcaaDsl39

section
set_option linter.unusedVariables false
set_option linter.unusedSimpArgs false
namespace Go.Proofs.Ytadabjkhiaidcaa
open Go.RowKit Go.Deep
section
variable {P : Program} {ops : Array Oper} {Q : Exit → Act → World → Prop} {I : Array Bool → Act → World → Prop}

/-- operation k is carried out in whatever state in which all that it waits for has come up -/
def StepI (P : Program) (ops : Array Oper) (Q : Exit → Act → World → Prop) (I : Array Bool → Act → World → Prop) (k : Nat) (o : Oper) : Prop :=
  ∀ (L : Array Bool) (a : Act) (w : World), I L a w → (∀ j, waitsB .any ops k j = true → L.getD j false = true) → L.getD k true = false →
    ∀ K' : Act → World → Prop, Shut (∀ a w, I (L.setIfInBounds k true) a w → K' a w) →
      if Region.wanted o (yielded ops a.tmps) = true then Oper.wp P o a w K' Q else K' (a.put o.dst undef) w
def StepsI (P : Program) (ops : Array Oper) (Q : Exit → Act → World → Prop) (I : Array Bool → Act → World → Prop) : Nat → List Oper → Prop
  | _, [] => True
  | k, o :: r => StepI P ops Q I k o ∧ StepsI P ops Q I (k + 1) r
theorem StepsI.at : ∀ {l : List Oper} {k i : Nat} {o : Oper}, StepsI P ops Q I k l → l[i]? = some o → StepI P ops Q I (k + i) o
  | [], _, _, _, _, h => by cases h
  | x :: r, k, 0, o, hs, h => by
    injection h with h
    subst h
    exact hs.1
  | x :: r, k, i + 1, o, hs, h => by
    have := StepsI.at (i := i) hs.2 (by simpa using h)
    rwa [show k + 1 + i = k + (i + 1) by omega] at this
/-- each operation waits for earlier ones alone -/
def upB (ops : Array Oper) : Bool := (List.range ops.size).all fun i => match ops[i]? with | none => true | some o => o.after.all fun e => !Region.binds .any e || decide (e.on < i)
theorem upB_spec (h : upB ops = true) {i : Nat} {o : Oper} (ho : ops[i]? = some o) : ∀ e ∈ o.after, Region.binds .any e = true → e.on < i := by
  unfold upB at h
  rw [List.all_eq_true] at h
  have h1 := h i (List.mem_range.2 (Array.getElem?_eq_some_iff.1 ho).1)
  rw [ho] at h1
  simp only [Array.all_eq_true'] at h1
  intro e he hb
  have h2 := h1 e he
  rw [hb] at h2
  simpa using h2
theorem all_up {L : Array Bool} (hup : upB ops = true) (hs : L.size = ops.size) (hr : Region.ready .any ops L = []) : ∀ i, i < ops.size → L.getD i false = true := by
  intro i
  induction i using Nat.strongRecOn with
  | ind i ih =>
    intro hi
    by_cases hl : L.getD i true = false
    · obtain ⟨o, ho⟩ : ∃ o, ops[i]? = some o := ⟨_, Array.getElem?_eq_getElem hi⟩
      have : i ∈ Region.ready .any ops L := mem_ready.2 ⟨hl, o, ho, fun e he hb => by
        have h1 := upB_spec hup ho e he hb
        exact ih e.on h1 (by omega)⟩
      rw [hr] at this
      cases this
    · simp only [Array.getD_eq_getD_getElem?, Array.getElem?_eq_getElem (show i < L.size by omega), Option.getD_some] at hl ⊢
      simpa using hl
theorem cnt_set : ∀ (l : List Bool) (i : Nat), l.getD i true = false → (l.set i true).count false + 1 = l.count false
  | [], i, h => by simp at h
  | b :: r, 0, h => by
    obtain rfl : b = false := by simpa using h
    simp
  | b :: r, i + 1, h => by
    have := cnt_set r i (by simpa using h)
    rw [List.set_cons_succ, List.count_cons, List.count_cons]
    omega
theorem wpAny_inv (hst : ∀ i o, ops[i]? = some o → StepI P ops Q I i o) (hup : upB ops = true) (hd : ∀ L a w, I L a w → (∀ i, i < ops.size → L.getD i false = true) → Q .normal a w) :
    ∀ (fuel : Nat) (L : Array Bool) (a : Act) (w : World), L.toList.count false ≤ fuel → L.size = ops.size → I L a w → wpAny P .any ops Q fuel L a w
  | 0, L, a, w, hc, hs, hI => by
    have hr : Region.ready .any ops L = [] := by
      rw [List.eq_nil_iff_forall_not_mem]
      intro i hi
      obtain ⟨h1, o, ho, -⟩ := mem_ready.1 hi
      have hlt : i < L.size := by rw [hs]; exact (Array.getElem?_eq_some_iff.1 ho).1
      have h2 : L.toList.getD i true = false := by
        rw [List.getD_eq_getElem?_getD, Array.getElem?_toList, ← Array.getD_eq_getD_getElem?]; exact h1
      have := cnt_set _ _ h2
      omega
    exact ⟨hr, hd L a w hI (all_up hup hs hr)⟩
  | fuel + 1, L, a, w, hc, hs, hI => by
    refine ⟨fun hr => hd L a w hI (all_up hup hs hr), fun i hi => ?_⟩
    obtain ⟨h1, o, ho, hall⟩ := mem_ready.1 hi
    refine wpOp_step ho (fun K' hK => hst i o ho L a w hI (fun j hj => ?_) h1 K' (fun a' w' hI' => hK a' w' (wpAny_inv hst hup hd fuel _ a' w' ?_ ?_ hI')))
    · obtain ⟨os, hos, e, he, hb, rfl⟩ := waitsB_spec hj
      rw [ho] at hos
      injection hos with hos
      subst hos
      exact hall e he hb
    · have h2 : L.toList.getD i true = false := by
        rw [List.getD_eq_getElem?_getD, Array.getElem?_toList, ← Array.getD_eq_getD_getElem?]; exact h1
      have := cnt_set _ _ h2
      rw [Array.toList_setIfInBounds]
      omega
    · simpa using hs
/-- a region that draws its order, by an invariant: I of what has come up, the temporaries, the world -/
theorem wp_region_inv {id : Nat} {l : List Oper} {a : Act} {w : World} (I : Array Bool → Act → World → Prop) (hm : P.follows .mixedOrders = true) (hup : upB l.toArray = true) (h0 : I (Array.replicate l.length false) a w.drew)
    (hst : StepsI P l.toArray Q I 0 l) (hd : ∀ L a w, I L a w → (∀ i, i < l.length → L.getD i false = true) → Q .normal a w) : (Code.region id l.toArray true).wp P Q a w := by
  refine wp_region_any hm ?_
  refine wpAny_inv (I := I) (fun i o ho => ?_) hup (fun L a w hI hL => hd L a w hI (by simpa using hL)) _ _ _ _ ?_ ?_ ?_
  · have := hst.at (i := i) (by simpa using ho)
    rwa [Nat.zero_add] at this
  · rw [show (Array.replicate l.toArray.size false).toList = List.replicate l.toArray.size false from by simp, List.count_replicate]
    simp
  · simp
  · simpa using h0
theorem up_set {L : Array Bool} {i j : Nat} (h : (L.setIfInBounds i true).getD j false = true) (hne : i ≠ j) : L.getD j false = true := by rwa [getD_set_ne false hne] at h
theorem not_up {n j : Nat} (h : (Array.replicate n false).getD j false = true) : False := by
  rw [Array.getD_eq_getD_getElem?, Array.getElem?_replicate] at h
  split at h <;> simp at h
/-- the temporaries, each operation's own one filled in -/
def putF : List Oper → Nat → (Nat → Value) → Act → Act
  | [], _, _, a => a
  | o :: r, k, f, a => putF r (k + 1) f (a.put o.dst (f k))
/-- no two operations fill one temporary -/
def dstsB : List Oper → Bool
  | [] => true
  | o :: r => r.all (fun x => match o.dst, x.dst with | some i, some j => i != j | _, _ => true) && dstsB r
theorem dsts_spec {o x : Oper} {r : List Oper} (h : dstsB (o :: r) = true) (hx : x ∈ r) : ∀ d, o.dst = some d → x.dst ≠ some d := by
  intro d h1 h2
  unfold dstsB at h
  rw [Bool.and_eq_true, List.all_eq_true] at h
  have := h.1 x hx
  rw [h1, h2] at this
  simp at this
theorem put_put (a : Act) (d : Option Tmp) (u v : Value) : (a.put d u).put d v = a.put d v := by
  cases d with
  | none => rfl
  | some i => simp only [Act.put, Array.setIfInBounds_setIfInBounds]
theorem putF_put : ∀ (l : List Oper) (k : Nat) (f : Nat → Value) (a : Act) (d : Option Tmp) (v : Value), (∀ x ∈ l, ∀ i, d = some i → x.dst ≠ some i) → (putF l k f a).put d v = putF l k f (a.put d v)
  | [], _, _, _, _, _, _ => rfl
  | o :: r, k, f, a, d, v, h => by
    show (putF r (k + 1) f (a.put o.dst (f k))).put d v = putF r (k + 1) f ((a.put d v).put o.dst (f k))
    rw [putF_put r (k + 1) f _ d v (fun x hx => h x (List.mem_cons_of_mem _ hx))]
    congr 1
    exact Act.put_comm a (f k) v (fun i hi hd => h o List.mem_cons_self i hd hi)
theorem putF_congr : ∀ (l : List Oper) (k : Nat) (f g : Nat → Value) (a : Act), (∀ j, k ≤ j → f j = g j) → putF l k f a = putF l k g a
  | [], _, _, _, _, _ => rfl
  | o :: r, k, f, g, a, h => by
    show putF r (k + 1) f (a.put o.dst (f k)) = putF r (k + 1) g (a.put o.dst (g k))
    rw [h k (Nat.le_refl _)]
    exact putF_congr r (k + 1) f g _ (fun j hj => h j (by omega))
theorem putF_set : ∀ (l : List Oper) (k i : Nat) (o : Oper) (f : Nat → Value) (a : Act) (v : Value), dstsB l = true → l[i]? = some o → (putF l k f a).put o.dst v = putF l k (fun j => if j = k + i then v else f j) a
  | [], _, _, _, _, _, _, _, h => by cases h
  | x :: r, k, 0, o, f, a, v, hd, h => by
    injection h with h
    subst h
    show (putF r (k + 1) f (a.put x.dst (f k))).put x.dst v = putF r (k + 1) _ (a.put x.dst (if k = k + 0 then v else f k))
    rw [putF_put r (k + 1) f _ _ v (fun y hy => dsts_spec hd hy), put_put, if_pos (by omega)]
    exact putF_congr r (k + 1) _ _ _ (fun j hj => by rw [if_neg (by omega)])
  | x :: r, k, i + 1, o, f, a, v, hd, h => by
    show (putF r (k + 1) f (a.put x.dst (f k))).put o.dst v = putF r (k + 1) _ (a.put x.dst (if k = k + (i + 1) then v else f k))
    rw [if_neg (by omega), putF_set r (k + 1) i o f _ v (by unfold dstsB at hd; rw [Bool.and_eq_true] at hd; exact hd.2) (by simpa using h)]
    exact putF_congr r (k + 1) _ _ _ (fun j hj => by rw [show k + 1 + i = k + (i + 1) by omega])
def getD0 (a : Act) : Option Tmp → Value
  | some d => a.tmps.getD d undef
  | none => undef
def getF (a : Act) : Option Oper → Value
  | some o => getD0 a o.dst
  | none => undef
theorem put_self (a : Act) (o : Oper) : a.put o.dst (getF a (some o)) = a := by
  show a.put o.dst (getD0 a o.dst) = a
  cases o.dst with
  | none => rfl
  | some d =>
    show ({ a with tmps := a.tmps.setIfInBounds d (a.tmps.getD d undef) } : Act) = a
    have : a.tmps.setIfInBounds d (a.tmps.getD d undef) = a.tmps := by
      apply Array.ext_getElem?
      intro i
      by_cases hi : d = i
      · subst hi
        rcases Nat.lt_or_ge d a.tmps.size with hlt | hge
        · rw [Array.getElem?_setIfInBounds_self_of_lt hlt, Array.getD_eq_getD_getElem?, Array.getElem?_eq_getElem hlt]; rfl
        · rw [Array.getElem?_eq_none (by simpa using hge), Array.getElem?_eq_none hge]
      · rw [Array.getElem?_setIfInBounds_ne hi]
    rw [this]
theorem putF_self : ∀ (m : List Oper) (l : List Oper) (a : Act), putF l m.length (fun j => getF a ((m ++ l)[j]?)) a = a
  | m, [], a => rfl
  | m, o :: r, a => by
    show putF r (m.length + 1) _ (a.put o.dst (getF a ((m ++ o :: r)[m.length]?))) = a
    rw [List.getElem?_append_right (Nat.le_refl _), Nat.sub_self, List.getElem?_cons_zero, put_self]
    have := putF_self (m ++ [o]) r a
    rw [List.length_append, List.append_assoc] at this
    exact this
/-- operation k, in whatever state in which what it waits for has come up: T a relation of worlds, R what each leaves -/
def StepR (P : Program) (l : List Oper) (Q : Exit → Act → World → Prop) (T : World → World → Prop) (G : World → Prop) (R : Nat → Value → World → Prop) (a : Act) (k : Nat) (o : Oper) : Prop :=
  ∀ (f : Nat → Value) (w : World), G w → (∀ j, waitsB .any l.toArray k j = true → R j (f j) w) →
    ∀ K' : Act → World → Prop, Shut (∀ v w', T w w' → G w' → R k v w' → K' ((putF l 0 f a).put o.dst v) w') →
      if Region.wanted o (yielded l.toArray (putF l 0 f a).tmps) = true then Oper.wp P o (putF l 0 f a) w K' Q else K' ((putF l 0 f a).put o.dst undef) w
def StepsR (P : Program) (l : List Oper) (Q : Exit → Act → World → Prop) (T : World → World → Prop) (G : World → Prop) (R : Nat → Value → World → Prop) (a : Act) : Nat → List Oper → Prop
  | _, [] => True
  | k, o :: r => StepR P l Q T G R a k o ∧ StepsR P l Q T G R a (k + 1) r
theorem StepsR.at {l : List Oper} {T : World → World → Prop} {G : World → Prop} {R : Nat → Value → World → Prop} {a : Act} : ∀ {m : List Oper} {k i : Nat} {o : Oper}, StepsR P l Q T G R a k m → m[i]? = some o → StepR P l Q T G R a (k + i) o
  | [], _, _, _, _, h => by cases h
  | x :: r, k, 0, o, hs, h => by
    injection h with h
    subst h
    exact hs.1
  | x :: r, k, i + 1, o, hs, h => by
    have := StepsR.at (i := i) hs.2 (by simpa using h)
    rwa [show k + 1 + i = k + (i + 1) by omega] at this
theorem wp_region_rel {id : Nat} {l : List Oper} {a : Act} {w : World} (T : World → World → Prop) (G : World → Prop) (R : Nat → Value → World → Prop) (hm : P.follows .mixedOrders = true) (hup : upB l.toArray = true) (hdst : dstsB l = true)
    (hT : ∀ k v w w', T w w' → R k v w → R k v w') (h0 : G w.drew) (hst : StepsR P l Q T G R a 0 l) (hd : ∀ (f : Nat → Value) (w : World), G w → (∀ i, i < l.length → R i (f i) w) → Q .normal (putF l 0 f a) w) : (Code.region id l.toArray true).wp P Q a w := by
  have key : ∀ (i : Nat) (o : Oper), l[i]? = some o → StepI P l.toArray Q (fun L a' W => ∃ f : Nat → Value, a' = putF l 0 f a ∧ G W ∧ ∀ k, L.getD k false = true → R k (f k) W) i o := by
    intro i o ho L a' W ⟨f, e, hG, hR⟩ hw hun K' hK
    subst e
    have := hst.at (i := i) ho
    rw [Nat.zero_add] at this
    refine this f W hG (fun j hj => hR j (hw j hj)) K' (fun v w' hTw hG' hRv => hK _ _ ⟨fun j => if j = i then v else f j, ?_, hG', fun k hk => ?_⟩)
    · rw [putF_set l 0 i o f a v hdst ho]
      exact putF_congr _ _ _ _ _ (fun j _ => by rw [Nat.zero_add])
    · by_cases hki : k = i
      · subst hki
        show R k (if k = k then v else f k) w'
        rw [if_pos rfl]; exact hRv
      · show R k (if k = i then v else f k) w'
        rw [if_neg hki]; exact hT _ _ _ _ hTw (hR k (up_set hk (fun e => hki e.symm)))
  refine wp_region_inv (fun L a' W => ∃ f : Nat → Value, a' = putF l 0 f a ∧ G W ∧ ∀ k, L.getD k false = true → R k (f k) W) hm hup ?_ ?_ ?_
  · exact ⟨fun j => getF a (l[j]?), (putF_self [] l a).symm, h0, fun k hk => False.elim (not_up (n := l.length) (j := k) hk)⟩
  · have hall : ∀ (m : List Oper) (k : Nat), (∀ i o, m[i]? = some o → StepI P l.toArray Q (fun L a' W => ∃ f : Nat → Value, a' = putF l 0 f a ∧ G W ∧ ∀ k, L.getD k false = true → R k (f k) W) (k + i) o) → StepsI P l.toArray Q (fun L a' W => ∃ f : Nat → Value, a' = putF l 0 f a ∧ G W ∧ ∀ k, L.getD k false = true → R k (f k) W) k m := by
      intro m
      induction m with
      | nil => intro k _; trivial
      | cons x r ih => exact fun k h => ⟨h 0 x rfl, ih (k + 1) (fun i o hi => by have := h (i + 1) o (by simpa using hi); rwa [show k + (i + 1) = k + 1 + i by omega] at this)⟩
    exact hall l 0 (fun i o hi => by rw [Nat.zero_add]; exact key i o hi)
  · rintro L a' W ⟨f, rfl, hG, hR⟩ hL
    exact hd f W hG (fun i hi => hR i (hL i hi))
end
end Go.Proofs.Ytadabjkhiaidcaa
end

section
set_option linter.unusedVariables false
set_option linter.unusedSimpArgs false
namespace Go.Proofs.Ytadabjkhiaidcaa
open Go.RowKit

attribute [local go_sem ↓] Tk_execLoad Tk_execStore Cp_execLoad Cp_execStore

attribute [local go_sem] Tk_load Tk_store Cp_load Cp_store loL_drew okL_drew there_sc World.there_drew

/-- a ticket with a posting more -/
def Dk.more (t : Tk) : Tk := ⟨t.num, t.loc, t.iss, t.cs, t.ts, t.prev, t.org, t.fst, t.vou, t.posts + 1, t.hs⟩
def Dk.postD (t : Tk) (p : Pst) : Tk × List Pst × Int := if 200 ≤ t.posts then (Tkt.zTk, [], 8) else (Dk.more t, [⟨p.d, t.num, t.posts + 1, p.k, p.a0, p.a1, p.a2, p.a3, p.a4, p.a5⟩], 0)
theorem row_put1 {W : World} {g : Nat} {cur : Array Value} {e : TypeId} (h : W.heap[g]? = some (.cells cur e (0, 0))) (o : Nat) (v : Value) : (W.setCell ⟨g, o, none⟩ v).heap[g]? = some (.cells (cur.setIfInBounds o v) e (0, 0)) := by
  rw [setCell_eq_setRow W g o cur e (0, 0) v h]
  exact setRow_heap W g cur _ e _ h
theorem post_two {w W : World} {t : Tk} {c x h : Sl} {A C : Option Obj} {cur : Array Value} {e : TypeId} (hb : Below w.heap.size w W) (ts : TS W t c x h) (ha : W.heap[w.heap.size]? = A) (hr : W.heap[w.heap.size + 1]? = some (.cells cur e (0, 0))) (hc : W.heap[w.heap.size + 1 + 1]? = C) (t0 : TS w t c x h) (o1 o2 : Nat) (v1 v2 : Value) :
    Below w.heap.size w ((W.setCell ⟨w.heap.size + 1, o1, none⟩ v1).setCell ⟨w.heap.size + 1, o2, none⟩ v2).drew ∧ TS ((W.setCell ⟨w.heap.size + 1, o1, none⟩ v1).setCell ⟨w.heap.size + 1, o2, none⟩ v2).drew t c x h ∧ ((W.setCell ⟨w.heap.size + 1, o1, none⟩ v1).setCell ⟨w.heap.size + 1, o2, none⟩ v2).drew.heap[w.heap.size]? = A ∧ ((W.setCell ⟨w.heap.size + 1, o1, none⟩ v1).setCell ⟨w.heap.size + 1, o2, none⟩ v2).drew.heap[w.heap.size + 1]? = some (.cells ((cur.setIfInBounds o1 v1).setIfInBounds o2 v2) e (0, 0)) ∧ ((W.setCell ⟨w.heap.size + 1, o1, none⟩ v1).setCell ⟨w.heap.size + 1, o2, none⟩ v2).drew.heap[w.heap.size + 1 + 1]? = C := by
  have ho : Only (w.heap.size + 1) W ((W.setCell ⟨w.heap.size + 1, o1, none⟩ v1).setCell ⟨w.heap.size + 1, o2, none⟩ v2).drew := (((Only.refl _ W).setCell o1 v1).setCell o2 v2).drew
  refine ⟨Only.below hb (by omega) hb.size ho, ts.only (Off.of_old t0 (by omega)) ho, ?_, row_drewT (row_put1 (row_put1 hr o1 v1) o2 v2), ?_⟩
  · show ((W.setCell ⟨w.heap.size + 1, o1, none⟩ v1).setCell ⟨w.heap.size + 1, o2, none⟩ v2).heap[w.heap.size]? = A
    rw [Below.heap_setCell _ _ _ _ (by simp), Below.heap_setCell _ _ _ _ (by simp)]
    exact ha
  · show ((W.setCell ⟨w.heap.size + 1, o1, none⟩ v1).setCell ⟨w.heap.size + 1, o2, none⟩ v2).heap[w.heap.size + 1 + 1]? = C
    rw [Below.heap_setCell _ _ _ _ (by simp), Below.heap_setCell _ _ _ _ (by simp)]
    exact hc
theorem setCells_rowA {g : Nat} {e : TypeId} {cs : List Value} {old : Array Value} {w : World} (h : w.heap[g]? = some (.cells old e (0, 0))) (hn : old.size = cs.length) : (w.setCells g 0 cs).heap[g]? = some (.cells cs.toArray e (0, 0)) :=
  setCells_rowT (zs := old.toList) (by simpa using h) (by simpa using hn)
theorem results_cellT3 {fn : Func} {a b c : Tmp} {ty : TypeId} {cs : Array Value} {P : Program} (h : fn.results = #[.cell a ty, .tmp b, .tmp c]) (tmps : Array Value) (w : World) (g : Nat) (hg : tmps.getD a undef = .pointer (some ⟨g, 0, none⟩)) (hl : (loadVar ty ⟨g, 0, none⟩).run P w = .ok (.agg cs) w) :
    (results fn tmps).run P w = .ok (.tuple #[.agg cs, tmps.getD b undef, tmps.getD c undef]) w := by
  simp at hg
  simp [results, h, Sem.run_bind, hg, asAddr, hl]
theorem Dk.more_wf {t : Tk} (h : t.wf) (hp : t.posts < 200) : (Dk.more t).wf :=
  ⟨h.num, h.loc, h.iss, h.cs, h.ts, h.prev, h.org, h.fst, h.vou, ⟨by have := h.posts.1; show _ ≤ t.posts + 1; omega, by show t.posts + 1 ≤ _; omega⟩, h.hs⟩
set_option maxRecDepth 8000 in
set_option maxHeartbeats 8000000 in
theorem dpost_any (t : Tk) (c x h : Sl) (p : Pst) (w : World) (ts : TS w t c x h) : Calls Try.prog 50 #[.agg #[.int .u64 t.num, .string t.loc, .int .i64 t.iss, .slice c.p c.n c.c, .slice x.p x.n x.c, .int .u64 t.prev, .int .u64 t.org, .int .u64 t.fst, .int .i64 t.vou, .int .i64 t.posts, .slice h.p h.n h.c], .agg #[.int .i64 p.d, .int .u64 p.t, .int .i64 p.s, .int .i64 p.k, .int .i64 p.a0, .int .i64 p.a1, .int .i64 p.a2, .int .i64 p.a3, .int .i64 p.a4, .int .i64 p.a5]] w fun e w' => ∃ (c' x' h' : Sl) (v : Value), e = .returned (.tuple #[.agg #[.int .u64 (Dk.postD t p).1.num, .string (Dk.postD t p).1.loc, .int .i64 (Dk.postD t p).1.iss, .slice c'.p c'.n c'.c, .slice x'.p x'.n x'.c, .int .u64 (Dk.postD t p).1.prev, .int .u64 (Dk.postD t p).1.org, .int .u64 (Dk.postD t p).1.fst, .int .i64 (Dk.postD t p).1.vou, .int .i64 (Dk.postD t p).1.posts, .slice h'.p h'.n h'.c], v, .int .i64 (Dk.postD t p).2.2]) ∧ TS w' (Dk.postD t p).1 c' x' h' ∧ LS Pst.cells 10 w' v (Dk.postD t p).2.1 ∧ Below w.heap.size w w' ∧ (∀ g, Off g t c x h → Off g (Dk.postD t p).1 c' x' h') ∧ (∀ b, v.ownBlock = some b → w.heap.size ≤ b) := by
  have HTT := Lib.hid ts
  have hb0 := (Below.refl w.heap.size w).alloc (Nat.le_refl _) (.cells #[.int .u64 t.num, .string t.loc, .int .i64 t.iss, .slice c.p c.n c.c, .slice x.p x.n x.c, .int .u64 t.prev, .int .u64 t.org, .int .u64 t.fst, .int .i64 t.vou, .int .i64 t.posts, .slice h.p h.n h.c] 45 (0, 0))
  have hb1 := hb0.alloc (by simp) (.cells #[.int .i64 p.d, .int .u64 p.t, .int .i64 p.s, .int .i64 p.k, .int .i64 p.a0, .int .i64 p.a1, .int .i64 p.a2, .int .i64 p.a3, .int .i64 p.a4, .int .i64 p.a5] 59 (0, 0))
  have hb2 := hb1.alloc (by simp; omega) (.cells #[.int .u64 0, .string ⟨#[]⟩, .int .i64 0, .slice none 0 0, .slice none 0 0, .int .u64 0, .int .u64 0, .int .u64 0, .int .i64 0, .int .i64 0, .slice none 0 0] 45 (0, 0))
  have hr0 := new_rowW w (.cells #[.int .u64 t.num, .string t.loc, .int .i64 t.iss, .slice c.p c.n c.c, .slice x.p x.n x.c, .int .u64 t.prev, .int .u64 t.org, .int .u64 t.fst, .int .i64 t.vou, .int .i64 t.posts, .slice h.p h.n h.c] 45 (0, 0)) _ rfl
  have hr0b := (((Below.refl (w.heap.size + 1) (w.alloc (.cells #[.int .u64 t.num, .string t.loc, .int .i64 t.iss, .slice c.p c.n c.c, .slice x.p x.n x.c, .int .u64 t.prev, .int .u64 t.org, .int .u64 t.fst, .int .i64 t.vou, .int .i64 t.posts, .slice h.p h.n h.c] 45 (0, 0)))).alloc (by simp) (.cells #[.int .i64 p.d, .int .u64 p.t, .int .i64 p.s, .int .i64 p.k, .int .i64 p.a0, .int .i64 p.a1, .int .i64 p.a2, .int .i64 p.a3, .int .i64 p.a4, .int .i64 p.a5] 59 (0, 0))).block w.heap.size (by omega)).trans hr0
  have hr1 := new_rowW (w.alloc (.cells #[.int .u64 t.num, .string t.loc, .int .i64 t.iss, .slice c.p c.n c.c, .slice x.p x.n x.c, .int .u64 t.prev, .int .u64 t.org, .int .u64 t.fst, .int .i64 t.vou, .int .i64 t.posts, .slice h.p h.n h.c] 45 (0, 0))) (.cells #[.int .i64 p.d, .int .u64 p.t, .int .i64 p.s, .int .i64 p.k, .int .i64 p.a0, .int .i64 p.a1, .int .i64 p.a2, .int .i64 p.a3, .int .i64 p.a4, .int .i64 p.a5] 59 (0, 0)) (w.heap.size + 1) (by simp)
  have hb3 := (Below.refl (w.heap.size + 1 + 1) ((w.alloc (.cells #[.int .u64 t.num, .string t.loc, .int .i64 t.iss, .slice c.p c.n c.c, .slice x.p x.n x.c, .int .u64 t.prev, .int .u64 t.org, .int .u64 t.fst, .int .i64 t.vou, .int .i64 t.posts, .slice h.p h.n h.c] 45 (0, 0))).alloc (.cells #[.int .i64 p.d, .int .u64 p.t, .int .i64 p.s, .int .i64 p.k, .int .i64 p.a0, .int .i64 p.a1, .int .i64 p.a2, .int .i64 p.a3, .int .i64 p.a4, .int .i64 p.a5] 59 (0, 0)))).alloc (by simp) (.cells #[.int .u64 0, .string ⟨#[]⟩, .int .i64 0, .slice none 0 0, .slice none 0 0, .int .u64 0, .int .u64 0, .int .u64 0, .int .i64 0, .int .i64 0, .slice none 0 0] 45 (0, 0))
  have hr2 := new_rowW ((w.alloc (.cells #[.int .u64 t.num, .string t.loc, .int .i64 t.iss, .slice c.p c.n c.c, .slice x.p x.n x.c, .int .u64 t.prev, .int .u64 t.org, .int .u64 t.fst, .int .i64 t.vou, .int .i64 t.posts, .slice h.p h.n h.c] 45 (0, 0))).alloc (.cells #[.int .i64 p.d, .int .u64 p.t, .int .i64 p.s, .int .i64 p.k, .int .i64 p.a0, .int .i64 p.a1, .int .i64 p.a2, .int .i64 p.a3, .int .i64 p.a4, .int .i64 p.a5] 59 (0, 0))) (.cells #[.int .u64 0, .string ⟨#[]⟩, .int .i64 0, .slice none 0 0, .slice none 0 0, .int .u64 0, .int .u64 0, .int .u64 0, .int .i64 0, .int .i64 0, .slice none 0 0] 45 (0, 0)) (w.heap.size + 1 + 1) (by simp)
  have HR0 := Lib.hid ((hb3.block w.heap.size (by omega)).trans hr0b)
  have HR1 := Lib.hid ((hb3.block (w.heap.size + 1) (by omega)).trans hr1)
  have HR2 := Lib.hid hr2
  have HB := Lib.hid hb2
  have HTB := Lib.hid (HTT.out.below hb2)
  clear hb0 hb1 hb2 hb3 hr0 hr0b hr1 hr2 ts
  go_enter Try.func50, Try.ntmps50
  go_upto_region 1 with fail
  generalize ((w.alloc (.cells #[.int .u64 t.num, .string t.loc, .int .i64 t.iss, .slice c.p c.n c.c, .slice x.p x.n x.c, .int .u64 t.prev, .int .u64 t.org, .int .u64 t.fst, .int .i64 t.vou, .int .i64 t.posts, .slice h.p h.n h.c] 45 (0, 0))).alloc (.cells #[.int .i64 p.d, .int .u64 p.t, .int .i64 p.s, .int .i64 p.k, .int .i64 p.a0, .int .i64 p.a1, .int .i64 p.a2, .int .i64 p.a3, .int .i64 p.a4, .int .i64 p.a5] 59 (0, 0))).alloc (.cells #[.int .u64 0, .string ⟨#[]⟩, .int .i64 0, .slice none 0 0, .slice none 0 0, .int .u64 0, .int .u64 0, .int .u64 0, .int .i64 0, .int .i64 0, .slice none 0 0] 45 (0, 0)) = W3 at *
  have kc := fun j => cell_of_row W3 w.heap.size j _ _ _ HR0.out
  have kf := fun j => frozen_of_row W3 w.heap.size j _ _ HR0.out
  by_cases hp : 200 ≤ t.posts
  · have HRV : Hid (Dk.postD t p = (Tkt.zTk, [], 8)) := Lib.hid (by unfold Dk.postD; rw [if_pos hp])
    have th := there_rowD HR2.out 11 rfl
    have h1n : ([.int .u64 0, .string ⟨#[]⟩, .int .i64 0, .slice none 0 0, .slice none 0 0, .int .u64 0, .int .u64 0, .int .u64 0, .int .i64 0, .int .i64 0, .slice none 0 0] : List Value).length = 11 := rfl
    have h1c : ([.int .u64 0, .string ⟨#[]⟩, .int .i64 0, .slice none 0 0, .slice none 0 0, .int .u64 0, .int .u64 0, .int .u64 0, .int .i64 0, .int .i64 0, .slice none 0 0] : List Value).all (·.oneCell') = true := rfl
    go_wp2
    have hrr := setCells_rowT (cs := [.int .u64 0, .string ⟨#[]⟩, .int .i64 0, .slice none 0 0, .slice none 0 0, .int .u64 0, .int .u64 0, .int .u64 0, .int .i64 0, .int .i64 0, .slice none 0 0]) (zs := [.int .u64 0, .string ⟨#[]⟩, .int .i64 0, .slice none 0 0, .slice none 0 0, .int .u64 0, .int .u64 0, .int .u64 0, .int .i64 0, .int .i64 0, .slice none 0 0]) HR2.out rfl
    refine bodyPost_ret (results_cellT3 rfl _ _ (w.heap.size + 1 + 1) rfl (loadTk hrr rfl)) rfl ?_
    rw [HRV.out]
    exact ⟨⟨none, 0, 0⟩, ⟨none, 0, 0⟩, ⟨none, 0, 0⟩, .slice none 0 0, rfl, TS.zero _, LS.nil _, Only.below HB.out (by omega) HB.out.size ((Only.refl _ _).setCells 0 _), fun _ _ => Off.zero _, fun b hb => by cases hb⟩
  · have hp2 : t.posts ≤ 200 := by omega
    have hp3 : -9223372036854775808 ≤ t.posts := HTT.out.wf.posts.1
    go_upto_region 4 with fail
    have HTQ : Hid (TS (W3.setCell ⟨w.heap.size, 9, none⟩ (.int .i64 (t.posts + 1))) t c x h) := Lib.hid (HTB.out.only (Off.of_old HTT.out (Nat.le_refl _)) ((Only.refl _ _).setCell 9 _))
    have kc1 := fun j => cell_of_row W3 (w.heap.size + 1) j _ _ _ HR1.out
    have kf1 := fun j => frozen_of_row W3 (w.heap.size + 1) j _ _ HR1.out
    have HRa := Lib.hid (row_put1 HR0.out 9 (.int .i64 (t.posts + 1)))
    have HRb := Lib.hid ((Below.heap_setCell W3 ⟨w.heap.size, 9, none⟩ (.int .i64 (t.posts + 1)) (w.heap.size + 1) (by simp)).trans HR1.out)
    have HRc := Lib.hid ((Below.heap_setCell W3 ⟨w.heap.size, 9, none⟩ (.int .i64 (t.posts + 1)) (w.heap.size + 1 + 1) (by simp; omega)).trans HR2.out)
    have HBq := Lib.hid (HB.out.setCell (p := ⟨w.heap.size, 9, none⟩) (Nat.le_refl _) (.int .i64 (t.posts + 1)))
    go_cut [] from 15 (fun wx => Below w.heap.size w wx ∧ TS wx t c x h ∧ wx.heap[w.heap.size]? = some (.cells #[.int .u64 t.num, .string t.loc, .int .i64 t.iss, .slice c.p c.n c.c, .slice x.p x.n x.c, .int .u64 t.prev, .int .u64 t.org, .int .u64 t.fst, .int .i64 t.vou, .int .i64 (t.posts + 1), .slice h.p h.n h.c] 45 (0, 0)) ∧ wx.heap[w.heap.size + 1]? = some (.cells #[.int .i64 p.d, .int .u64 t.num, .int .i64 (t.posts + 1), .int .i64 p.k, .int .i64 p.a0, .int .i64 p.a1, .int .i64 p.a2, .int .i64 p.a3, .int .i64 p.a4, .int .i64 p.a5] 59 (0, 0)) ∧ wx.heap[w.heap.size + 1 + 1]? = some (.cells #[.int .u64 0, .string ⟨#[]⟩, .int .i64 0, .slice none 0 0, .slice none 0 0, .int .u64 0, .int .u64 0, .int .u64 0, .int .i64 0, .int .i64 0, .slice none 0 0] 45 (0, 0)))
    case first =>
      go_region_with fail
      all_goals go_wp2_with fail
      all_goals go_meet
      all_goals first | exact post_two HBq.out HTQ.out HRa.out HRb.out HRc.out HTT.out 1 2 _ _ | exact post_two HBq.out HTQ.out HRa.out HRb.out HRc.out HTT.out 2 1 _ _
    case rest =>
      obtain ⟨h1, h2, h3, h4, h5⟩ := hcut
      clear kc kf kc1 kf1 HR0 HR1 HR2 HB HTB HTQ HRa HRb HRc HBq
      have HB := Lib.hid h1; have HTS := Lib.hid h2; have HR0 := Lib.hid h3; have HR1 := Lib.hid h4; have HR2 := Lib.hid h5
      clear h1 h2 h3 h4 h5
      have HRV : Hid (Dk.postD t p = (Dk.more t, [⟨p.d, t.num, t.posts + 1, p.k, p.a0, p.a1, p.a2, p.a3, p.a4, p.a5⟩], 0)) := Lib.hid (by unfold Dk.postD; rw [if_neg hp])
      go_upto_region 5 with fail
      refine wp_region_rel (T := fun A B => Only (w.heap.size + 1 + 1) A B ∧ (A.heap[w.heap.size + 1 + 1]? = some (.cells #[.int .u64 t.num, .string t.loc, .int .i64 t.iss, .slice c.p c.n c.c, .slice x.p x.n x.c, .int .u64 t.prev, .int .u64 t.org, .int .u64 t.fst, .int .i64 t.vou, .int .i64 (t.posts + 1), .slice h.p h.n h.c] 45 (0, 0)) → B.heap[w.heap.size + 1 + 1]? = some (.cells #[.int .u64 t.num, .string t.loc, .int .i64 t.iss, .slice c.p c.n c.c, .slice x.p x.n x.c, .int .u64 t.prev, .int .u64 t.org, .int .u64 t.fst, .int .i64 t.vou, .int .i64 (t.posts + 1), .slice h.p h.n h.c] 45 (0, 0)))) (G := fun W => Only (w.heap.size + 1 + 1) wc W ∧ ∃ cs : Array Value, cs.size = 11 ∧ W.heap[w.heap.size + 1 + 1]? = some (.cells cs 45 (0, 0))) (R := fun k => match k with | 0 => fun v _ => v = .agg #[.int .u64 t.num, .string t.loc, .int .i64 t.iss, .slice c.p c.n c.c, .slice x.p x.n x.c, .int .u64 t.prev, .int .u64 t.org, .int .u64 t.fst, .int .i64 t.vou, .int .i64 (t.posts + 1), .slice h.p h.n h.c] | 1 => fun v _ => v = .agg #[.int .i64 p.d, .int .u64 t.num, .int .i64 (t.posts + 1), .int .i64 p.k, .int .i64 p.a0, .int .i64 p.a1, .int .i64 p.a2, .int .i64 p.a3, .int .i64 p.a4, .int .i64 p.a5] | 2 => fun v W => ∃ N, v = .slice (some ⟨N, 0, none⟩) 1 1 ∧ N ≠ w.heap.size + 1 + 1 ∧ w.heap.size ≤ N ∧ W.heap[N]? = some (.cells #[.int .i64 p.d, .int .u64 t.num, .int .i64 (t.posts + 1), .int .i64 p.k, .int .i64 p.a0, .int .i64 p.a1, .int .i64 p.a2, .int .i64 p.a3, .int .i64 p.a4, .int .i64 p.a5] 59 (0, 0)) | 3 => fun _ W => W.heap[w.heap.size + 1 + 1]? = some (.cells #[.int .u64 t.num, .string t.loc, .int .i64 t.iss, .slice c.p c.n c.c, .slice x.p x.n x.c, .int .u64 t.prev, .int .u64 t.org, .int .u64 t.fst, .int .i64 t.vou, .int .i64 (t.posts + 1), .slice h.p h.n h.c] 45 (0, 0)) | 4 => fun v W => ∃ N, v = .slice (some ⟨N, 0, none⟩) 1 1 ∧ N ≠ w.heap.size + 1 + 1 ∧ w.heap.size ≤ N ∧ W.heap[N]? = some (.cells #[.int .i64 p.d, .int .u64 t.num, .int .i64 (t.posts + 1), .int .i64 p.k, .int .i64 p.a0, .int .i64 p.a1, .int .i64 p.a2, .int .i64 p.a3, .int .i64 p.a4, .int .i64 p.a5] 59 (0, 0)) | 5 => fun v _ => v = .int .i64 0 | _ => fun _ _ => True) (by kernel_rfl) (by kernel_rfl) (by kernel_rfl) ?iT (⟨(Only.refl _ _).drew, _, rfl, HR2.out⟩) ?iS ?iD
      case iT =>
        intro k v A B hT h
        match k, h with
        | 0, h => exact h
        | 1, h => exact h
        | 2, h => exact (by obtain ⟨N, e, hne, hle, hn⟩ := h; exact ⟨N, e, hne, hle, (hT.1.block N (block_lt hn) hne).trans hn⟩)
        | 3, h => exact hT.2 h
        | 4, h => exact (by obtain ⟨N, e, hne, hle, hn⟩ := h; exact ⟨N, e, hne, hle, (hT.1.block N (block_lt hn) hne).trans hn⟩)
        | 5, h => exact h
        | _ + 6, h => exact trivial
      case iS =>
        refine ⟨?s0, ?s1, ?s2, ?s3, ?s4, ?s5, trivial⟩
        case s0 =>
          intro f W hG hW K hK
          try dsimp only at hG
          simp only [putF, Act.put, List.setIfInBounds_toArray, List.set_cons_zero, List.set_cons_succ, Nat.reduceAdd, Nat.zero_add] at hK ⊢
          obtain ⟨hG1, cs4, hcs, hG2⟩ := hG
          have hrw := (hG1.block _ (block_lt HR0.out) (by omega)).trans HR0.out
          obtain ⟨f1, f2⟩ := row_loT 11 hrw rfl rfl
          clear hW
          go_simp
          refine hK.out _ _ ⟨Only.refl _ _, id⟩ ⟨hG1, cs4, hcs, hG2⟩ ?_
          with_reducible rfl
        case s1 =>
          intro f W hG hW K hK
          try dsimp only at hG
          simp only [putF, Act.put, List.setIfInBounds_toArray, List.set_cons_zero, List.set_cons_succ, Nat.reduceAdd, Nat.zero_add] at hK ⊢
          obtain ⟨hG1, cs4, hcs, hG2⟩ := hG
          have hrw := (hG1.block _ (block_lt HR1.out) (by omega)).trans HR1.out
          have kc := fun j => cell_of_row W (w.heap.size + 1) j _ _ _ hrw
          clear hW
          go_simp
          refine hK.out _ _ ⟨Only.refl _ _, id⟩ ⟨hG1, cs4, hcs, hG2⟩ ?_
          first | with_reducible rfl | rfl
        case s2 =>
          intro f W hG hW K hK
          try dsimp only at hG
          have e1 := hW 1 (by kernel_rfl)
          change f 1 = .agg #[.int .i64 p.d, .int .u64 t.num, .int .i64 (t.posts + 1), .int .i64 p.k, .int .i64 p.a0, .int .i64 p.a1, .int .i64 p.a2, .int .i64 p.a3, .int .i64 p.a4, .int .i64 p.a5] at e1
          simp only [putF, Act.put, List.setIfInBounds_toArray, List.set_cons_zero, List.set_cons_succ, Nat.reduceAdd, Nat.zero_add] at hK ⊢
          (try rw [e1])
          (try rw [e1] at hK)
          obtain ⟨hG1, cs4, hcs, hG2⟩ := hG
          have hbl := (Below.refl W.heap.size W).alloc (Nat.le_refl _) (.cells #[.int .i64 p.d, .int .u64 t.num, .int .i64 (t.posts + 1), .int .i64 p.k, .int .i64 p.a0, .int .i64 p.a1, .int .i64 p.a2, .int .i64 p.a3, .int .i64 p.a4, .int .i64 p.a5] 59 (0, 0))
          clear hW
          go_simp
          refine hK.out _ _ ⟨Only.of_below hbl, fun h => (hbl.block _ (block_lt hG2)).trans h⟩ ⟨hG1.trans (Only.of_below hbl), cs4, hcs, (hbl.block _ (block_lt hG2)).trans hG2⟩ ?_
          exact ⟨W.heap.size, rfl, by have := block_lt hG2; omega, Nat.le_trans HB.out.size hG1.size, new_rowW _ _ _ rfl⟩
        case s3 =>
          intro f W hG hW K hK
          try dsimp only at hG
          have e0 := hW 0 (by kernel_rfl)
          change f 0 = .agg #[.int .u64 t.num, .string t.loc, .int .i64 t.iss, .slice c.p c.n c.c, .slice x.p x.n x.c, .int .u64 t.prev, .int .u64 t.org, .int .u64 t.fst, .int .i64 t.vou, .int .i64 (t.posts + 1), .slice h.p h.n h.c] at e0
          simp only [putF, Act.put, List.setIfInBounds_toArray, List.set_cons_zero, List.set_cons_succ, Nat.reduceAdd, Nat.zero_add] at hK ⊢
          (try rw [e0])
          (try rw [e0] at hK)
          obtain ⟨hG1, cs4, hcs, hG2⟩ := hG
          have th := there_rowD hG2 11 hcs
          have h1n : ([.int .u64 t.num, .string t.loc, .int .i64 t.iss, .slice c.p c.n c.c, .slice x.p x.n x.c, .int .u64 t.prev, .int .u64 t.org, .int .u64 t.fst, .int .i64 t.vou, .int .i64 (t.posts + 1), .slice h.p h.n h.c] : List Value).length = 11 := rfl
          have h1c : ([.int .u64 t.num, .string t.loc, .int .i64 t.iss, .slice c.p c.n c.c, .slice x.p x.n x.c, .int .u64 t.prev, .int .u64 t.org, .int .u64 t.fst, .int .i64 t.vou, .int .i64 (t.posts + 1), .slice h.p h.n h.c] : List Value).all (·.oneCell') = true := rfl
          have hrw := setCells_rowA (cs := [.int .u64 t.num, .string t.loc, .int .i64 t.iss, .slice c.p c.n c.c, .slice x.p x.n x.c, .int .u64 t.prev, .int .u64 t.org, .int .u64 t.fst, .int .i64 t.vou, .int .i64 (t.posts + 1), .slice h.p h.n h.c]) hG2 hcs
          clear hW
          go_simp
          refine hK.out undef _ ⟨(Only.refl _ _).setCells 0 _, fun _ => hrw⟩ ⟨hG1.setCells 0 _, _, rfl, hrw⟩ ?_
          exact hrw
        case s4 =>
          intro f W hG hW K hK
          try dsimp only at hG
          have e0 := hW 0 (by kernel_rfl)
          change f 0 = .agg #[.int .u64 t.num, .string t.loc, .int .i64 t.iss, .slice c.p c.n c.c, .slice x.p x.n x.c, .int .u64 t.prev, .int .u64 t.org, .int .u64 t.fst, .int .i64 t.vou, .int .i64 (t.posts + 1), .slice h.p h.n h.c] at e0
          have e1 := hW 1 (by kernel_rfl)
          change f 1 = .agg #[.int .i64 p.d, .int .u64 t.num, .int .i64 (t.posts + 1), .int .i64 p.k, .int .i64 p.a0, .int .i64 p.a1, .int .i64 p.a2, .int .i64 p.a3, .int .i64 p.a4, .int .i64 p.a5] at e1
          have e2 := hW 2 (by kernel_rfl)
          try dsimp only at e2
          have e3 := hW 3 (by kernel_rfl)
          try dsimp only at e3
          simp only [putF, Act.put, List.setIfInBounds_toArray, List.set_cons_zero, List.set_cons_succ, Nat.reduceAdd, Nat.zero_add] at hK ⊢
          (try rw [e0])
          (try rw [e0] at hK)
          (try rw [e1])
          (try rw [e1] at hK)
          clear hW
          go_simp
          refine hK.out _ _ ⟨Only.refl _ _, id⟩ hG ?_
          exact e2
        case s5 =>
          intro f W hG hW K hK
          try dsimp only at hG
          have e0 := hW 0 (by kernel_rfl)
          change f 0 = .agg #[.int .u64 t.num, .string t.loc, .int .i64 t.iss, .slice c.p c.n c.c, .slice x.p x.n x.c, .int .u64 t.prev, .int .u64 t.org, .int .u64 t.fst, .int .i64 t.vou, .int .i64 (t.posts + 1), .slice h.p h.n h.c] at e0
          have e1 := hW 1 (by kernel_rfl)
          change f 1 = .agg #[.int .i64 p.d, .int .u64 t.num, .int .i64 (t.posts + 1), .int .i64 p.k, .int .i64 p.a0, .int .i64 p.a1, .int .i64 p.a2, .int .i64 p.a3, .int .i64 p.a4, .int .i64 p.a5] at e1
          have e2 := hW 2 (by kernel_rfl)
          try dsimp only at e2
          have e3 := hW 3 (by kernel_rfl)
          try dsimp only at e3
          have e4 := hW 4 (by kernel_rfl)
          try dsimp only at e4
          simp only [putF, Act.put, List.setIfInBounds_toArray, List.set_cons_zero, List.set_cons_succ, Nat.reduceAdd, Nat.zero_add] at hK ⊢
          (try rw [e0])
          (try rw [e0] at hK)
          (try rw [e1])
          (try rw [e1] at hK)
          clear hW
          go_simp
          refine hK.out _ _ ⟨Only.refl _ _, id⟩ hG ?_
          first | with_reducible rfl | rfl
      case iD =>
        intro f W hG hR
        try dsimp only at hG
        have r0 := hR 0 (by decide)
        change f 0 = .agg #[.int .u64 t.num, .string t.loc, .int .i64 t.iss, .slice c.p c.n c.c, .slice x.p x.n x.c, .int .u64 t.prev, .int .u64 t.org, .int .u64 t.fst, .int .i64 t.vou, .int .i64 (t.posts + 1), .slice h.p h.n h.c] at r0
        have r1 := hR 1 (by decide)
        change f 1 = .agg #[.int .i64 p.d, .int .u64 t.num, .int .i64 (t.posts + 1), .int .i64 p.k, .int .i64 p.a0, .int .i64 p.a1, .int .i64 p.a2, .int .i64 p.a3, .int .i64 p.a4, .int .i64 p.a5] at r1
        have r2 := hR 2 (by decide)
        try dsimp only at r2
        have r3 := hR 3 (by decide)
        try dsimp only at r3
        have r4 := hR 4 (by decide)
        try dsimp only at r4
        have r5 := hR 5 (by decide)
        change f 5 = .int .i64 0 at r5
        clear hR
        simp only [putF, Act.put, List.setIfInBounds_toArray, List.set_cons_zero, List.set_cons_succ, Nat.reduceAdd, Nat.zero_add]
        (try rw [r0])
        (try rw [r1])
        (try rw [r5])
        obtain ⟨hG1, -⟩ := hG
        obtain ⟨N, hN, hne, hle, hn⟩ := r4
        (try rw [hN])
        have HG1 := Lib.hid hG1; have HRN := Lib.hid hn; have HR4 := Lib.hid r3
        clear hG1 hn r0 r1 r2 r3 hN
        go_wp2
        refine bodyPost_ret (results_cellT3 rfl _ _ (w.heap.size + 1 + 1) rfl (loadTk HR4.out rfl)) rfl ?_
        rw [HRV.out]
        exact ⟨c, x, h, _, rfl, ⟨(HTS.out.only (Off.of_old HTT.out (by omega)) HG1.out).cs, (HTS.out.only (Off.of_old HTT.out (by omega)) HG1.out).ts, (HTS.out.only (Off.of_old HTT.out (by omega)) HG1.out).hs, Dk.more_wf HTT.out.wf (by omega)⟩, row_one (enc := Pst.cells) (x := ⟨p.d, t.num, t.posts + 1, p.k, p.a0, p.a1, p.a2, p.a3, p.a4, p.a5⟩) HRN.out rfl (fun _ => rfl) (by decide), Only.below HB.out (by omega) HB.out.size HG1.out, fun _ o => ⟨o.c, o.x, o.h⟩, fun b hb => by injection hb with hb; have hb : N = b := hb; omega⟩
end Go.Proofs.Ytadabjkhiaidcaa
end
