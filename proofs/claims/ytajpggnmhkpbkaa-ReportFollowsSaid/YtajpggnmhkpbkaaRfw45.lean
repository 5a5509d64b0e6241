/- A region that draws its order: a law by what each operation leaves, whatever the order (one goal an operation; no orders are gone through). -/
import Derived.Test.YtajpggnmhkpbkaaRfw44

set_option linter.unusedVariables false
set_option linter.unusedSimpArgs false
namespace Go.Proofs.Ytajpggnmhkpbkaa
open Go.RowKit Go.Deep
section
variable {P : Program} {ops : Array Oper} {Q : Exit → Act → World → Prop} {I : Array Bool → Act → World → Prop}

/-- operation k is carried out in whatever state in which all that it waits for has come up -/
def StepI (P : Program) (ops : Array Oper) (Q : Exit → Act → World → Prop) (I : Array Bool → Act → World → Prop) (k : Nat) (o : Oper) : Prop :=
  ∀ (L : Array Bool) (a : Act) (w : World), I L a w → (∀ j, waitsB .any ops k j = true → L.getD j false = true) → L.getD k true = false →
    ∀ K' : Act → World → Prop, Shut (∀ a w, I (L.setIfInBounds k true) a w → K' a w) →
      if Region.wanted o (yielded ops a.tmps) = true then Oper.wp P o a w K' Q else K' (a.put o.dst undef) w
def StepsI (P : Program) (ops : Array Oper) (Q : Exit → Act → World → Prop) (I : Array Bool → Act → World → Prop) : Nat → List Oper → Prop
  | _, [] => True
  | k, o :: r => StepI P ops Q I k o ∧ StepsI P ops Q I (k + 1) r
theorem StepsI.at : ∀ {l : List Oper} {k i : Nat} {o : Oper}, StepsI P ops Q I k l → l[i]? = some o → StepI P ops Q I (k + i) o
  | [], _, _, _, _, h => by cases h
  | x :: r, k, 0, o, hs, h => by
    injection h with h
    subst h
    exact hs.1
  | x :: r, k, i + 1, o, hs, h => by
    have := StepsI.at (i := i) hs.2 (by simpa using h)
    rwa [show k + 1 + i = k + (i + 1) by omega] at this
/-- each operation waits for earlier ones alone -/
def upB (ops : Array Oper) : Bool := (List.range ops.size).all fun i => match ops[i]? with | none => true | some o => o.after.all fun e => !Region.binds .any e || decide (e.on < i)
theorem upB_spec (h : upB ops = true) {i : Nat} {o : Oper} (ho : ops[i]? = some o) : ∀ e ∈ o.after, Region.binds .any e = true → e.on < i := by
  unfold upB at h
  rw [List.all_eq_true] at h
  have h1 := h i (List.mem_range.2 (Array.getElem?_eq_some_iff.1 ho).1)
  rw [ho] at h1
  simp only [Array.all_eq_true'] at h1
  intro e he hb
  have h2 := h1 e he
  rw [hb] at h2
  simpa using h2
theorem all_up {L : Array Bool} (hup : upB ops = true) (hs : L.size = ops.size) (hr : Region.ready .any ops L = []) : ∀ i, i < ops.size → L.getD i false = true := by
  intro i
  induction i using Nat.strongRecOn with
  | ind i ih =>
    intro hi
    by_cases hl : L.getD i true = false
    · obtain ⟨o, ho⟩ : ∃ o, ops[i]? = some o := ⟨_, Array.getElem?_eq_getElem hi⟩
      have : i ∈ Region.ready .any ops L := mem_ready.2 ⟨hl, o, ho, fun e he hb => by
        have h1 := upB_spec hup ho e he hb
        exact ih e.on h1 (by omega)⟩
      rw [hr] at this
      cases this
    · simp only [Array.getD_eq_getD_getElem?, Array.getElem?_eq_getElem (show i < L.size by omega), Option.getD_some] at hl ⊢
      simpa using hl
theorem cnt_set : ∀ (l : List Bool) (i : Nat), l.getD i true = false → (l.set i true).count false + 1 = l.count false
  | [], i, h => by simp at h
  | b :: r, 0, h => by
    obtain rfl : b = false := by simpa using h
    simp
  | b :: r, i + 1, h => by
    have := cnt_set r i (by simpa using h)
    rw [List.set_cons_succ, List.count_cons, List.count_cons]
    omega
theorem wpAny_inv (hst : ∀ i o, ops[i]? = some o → StepI P ops Q I i o) (hup : upB ops = true) (hd : ∀ L a w, I L a w → (∀ i, i < ops.size → L.getD i false = true) → Q .normal a w) :
    ∀ (fuel : Nat) (L : Array Bool) (a : Act) (w : World), L.toList.count false ≤ fuel → L.size = ops.size → I L a w → wpAny P .any ops Q fuel L a w
  | 0, L, a, w, hc, hs, hI => by
    have hr : Region.ready .any ops L = [] := by
      rw [List.eq_nil_iff_forall_not_mem]
      intro i hi
      obtain ⟨h1, o, ho, -⟩ := mem_ready.1 hi
      have hlt : i < L.size := by rw [hs]; exact (Array.getElem?_eq_some_iff.1 ho).1
      have h2 : L.toList.getD i true = false := by
        rw [List.getD_eq_getElem?_getD, Array.getElem?_toList, ← Array.getD_eq_getD_getElem?]; exact h1
      have := cnt_set _ _ h2
      omega
    exact ⟨hr, hd L a w hI (all_up hup hs hr)⟩
  | fuel + 1, L, a, w, hc, hs, hI => by
    refine ⟨fun hr => hd L a w hI (all_up hup hs hr), fun i hi => ?_⟩
    obtain ⟨h1, o, ho, hall⟩ := mem_ready.1 hi
    refine wpOp_step ho (fun K' hK => hst i o ho L a w hI (fun j hj => ?_) h1 K' (fun a' w' hI' => hK a' w' (wpAny_inv hst hup hd fuel _ a' w' ?_ ?_ hI')))
    · obtain ⟨os, hos, e, he, hb, rfl⟩ := waitsB_spec hj
      rw [ho] at hos
      injection hos with hos
      subst hos
      exact hall e he hb
    · have h2 : L.toList.getD i true = false := by
        rw [List.getD_eq_getElem?_getD, Array.getElem?_toList, ← Array.getD_eq_getD_getElem?]; exact h1
      have := cnt_set _ _ h2
      rw [Array.toList_setIfInBounds]
      omega
    · simpa using hs
/-- a region that draws its order, by an invariant: I of what has come up, the temporaries, the world -/
theorem wp_region_inv {id : Nat} {l : List Oper} {a : Act} {w : World} (I : Array Bool → Act → World → Prop) (hm : P.follows .mixedOrders = true) (hup : upB l.toArray = true) (h0 : I (Array.replicate l.length false) a w.drew)
    (hst : StepsI P l.toArray Q I 0 l) (hd : ∀ L a w, I L a w → (∀ i, i < l.length → L.getD i false = true) → Q .normal a w) : (Code.region id l.toArray true).wp P Q a w := by
  refine wp_region_any hm ?_
  refine wpAny_inv (I := I) (fun i o ho => ?_) hup (fun L a w hI hL => hd L a w hI (by simpa using hL)) _ _ _ _ ?_ ?_ ?_
  · have := hst.at (i := i) (by simpa using ho)
    rwa [Nat.zero_add] at this
  · rw [show (Array.replicate l.toArray.size false).toList = List.replicate l.toArray.size false from by simp, List.count_replicate]
    simp
  · simp
  · simpa using h0
theorem up_set {L : Array Bool} {i j : Nat} (h : (L.setIfInBounds i true).getD j false = true) (hne : i ≠ j) : L.getD j false = true := by rwa [getD_set_ne false hne] at h
theorem not_up {n j : Nat} (h : (Array.replicate n false).getD j false = true) : False := by
  rw [Array.getD_eq_getD_getElem?, Array.getElem?_replicate] at h
  split at h <;> simp at h
/-- the temporaries, each operation's own one filled in -/
def putF : List Oper → Nat → (Nat → Value) → Act → Act
  | [], _, _, a => a
  | o :: r, k, f, a => putF r (k + 1) f (a.put o.dst (f k))
/-- no two operations fill one temporary -/
def dstsB : List Oper → Bool
  | [] => true
  | o :: r => r.all (fun x => match o.dst, x.dst with | some i, some j => i != j | _, _ => true) && dstsB r
theorem dsts_spec {o x : Oper} {r : List Oper} (h : dstsB (o :: r) = true) (hx : x ∈ r) : ∀ d, o.dst = some d → x.dst ≠ some d := by
  intro d h1 h2
  unfold dstsB at h
  rw [Bool.and_eq_true, List.all_eq_true] at h
  have := h.1 x hx
  rw [h1, h2] at this
  simp at this
theorem put_put (a : Act) (d : Option Tmp) (u v : Value) : (a.put d u).put d v = a.put d v := by
  cases d with
  | none => rfl
  | some i => simp only [Act.put, Array.setIfInBounds_setIfInBounds]
theorem putF_put : ∀ (l : List Oper) (k : Nat) (f : Nat → Value) (a : Act) (d : Option Tmp) (v : Value), (∀ x ∈ l, ∀ i, d = some i → x.dst ≠ some i) → (putF l k f a).put d v = putF l k f (a.put d v)
  | [], _, _, _, _, _, _ => rfl
  | o :: r, k, f, a, d, v, h => by
    show (putF r (k + 1) f (a.put o.dst (f k))).put d v = putF r (k + 1) f ((a.put d v).put o.dst (f k))
    rw [putF_put r (k + 1) f _ d v (fun x hx => h x (List.mem_cons_of_mem _ hx))]
    congr 1
    exact Act.put_comm a (f k) v (fun i hi hd => h o List.mem_cons_self i hd hi)
theorem putF_congr : ∀ (l : List Oper) (k : Nat) (f g : Nat → Value) (a : Act), (∀ j, k ≤ j → f j = g j) → putF l k f a = putF l k g a
  | [], _, _, _, _, _ => rfl
  | o :: r, k, f, g, a, h => by
    show putF r (k + 1) f (a.put o.dst (f k)) = putF r (k + 1) g (a.put o.dst (g k))
    rw [h k (Nat.le_refl _)]
    exact putF_congr r (k + 1) f g _ (fun j hj => h j (by omega))
theorem putF_set : ∀ (l : List Oper) (k i : Nat) (o : Oper) (f : Nat → Value) (a : Act) (v : Value), dstsB l = true → l[i]? = some o → (putF l k f a).put o.dst v = putF l k (fun j => if j = k + i then v else f j) a
  | [], _, _, _, _, _, _, _, h => by cases h
  | x :: r, k, 0, o, f, a, v, hd, h => by
    injection h with h
    subst h
    show (putF r (k + 1) f (a.put x.dst (f k))).put x.dst v = putF r (k + 1) _ (a.put x.dst (if k = k + 0 then v else f k))
    rw [putF_put r (k + 1) f _ _ v (fun y hy => dsts_spec hd hy), put_put, if_pos (by omega)]
    exact putF_congr r (k + 1) _ _ _ (fun j hj => by rw [if_neg (by omega)])
  | x :: r, k, i + 1, o, f, a, v, hd, h => by
    show (putF r (k + 1) f (a.put x.dst (f k))).put o.dst v = putF r (k + 1) _ (a.put x.dst (if k = k + (i + 1) then v else f k))
    rw [if_neg (by omega), putF_set r (k + 1) i o f _ v (by unfold dstsB at hd; rw [Bool.and_eq_true] at hd; exact hd.2) (by simpa using h)]
    exact putF_congr r (k + 1) _ _ _ (fun j hj => by rw [show k + 1 + i = k + (i + 1) by omega])
def getD0 (a : Act) : Option Tmp → Value
  | some d => a.tmps.getD d undef
  | none => undef
def getF (a : Act) : Option Oper → Value
  | some o => getD0 a o.dst
  | none => undef
theorem put_self (a : Act) (o : Oper) : a.put o.dst (getF a (some o)) = a := by
  show a.put o.dst (getD0 a o.dst) = a
  cases o.dst with
  | none => rfl
  | some d =>
    show ({ a with tmps := a.tmps.setIfInBounds d (a.tmps.getD d undef) } : Act) = a
    have : a.tmps.setIfInBounds d (a.tmps.getD d undef) = a.tmps := by
      apply Array.ext_getElem?
      intro i
      by_cases hi : d = i
      · subst hi
        rcases Nat.lt_or_ge d a.tmps.size with hlt | hge
        · rw [Array.getElem?_setIfInBounds_self_of_lt hlt, Array.getD_eq_getD_getElem?, Array.getElem?_eq_getElem hlt]; rfl
        · rw [Array.getElem?_eq_none (by simpa using hge), Array.getElem?_eq_none hge]
      · rw [Array.getElem?_setIfInBounds_ne hi]
    rw [this]
theorem putF_self : ∀ (m : List Oper) (l : List Oper) (a : Act), putF l m.length (fun j => getF a ((m ++ l)[j]?)) a = a
  | m, [], a => rfl
  | m, o :: r, a => by
    show putF r (m.length + 1) _ (a.put o.dst (getF a ((m ++ o :: r)[m.length]?))) = a
    rw [List.getElem?_append_right (Nat.le_refl _), Nat.sub_self, List.getElem?_cons_zero, put_self]
    have := putF_self (m ++ [o]) r a
    rw [List.length_append, List.append_assoc] at this
    exact this
/-- operation k, in whatever state in which what it waits for has come up: T a relation of worlds, R what each leaves -/
def StepR (P : Program) (l : List Oper) (Q : Exit → Act → World → Prop) (T : World → World → Prop) (G : World → Prop) (R : Nat → Value → World → Prop) (a : Act) (k : Nat) (o : Oper) : Prop :=
  ∀ (f : Nat → Value) (w : World), G w → (∀ j, waitsB .any l.toArray k j = true → R j (f j) w) →
    ∀ K' : Act → World → Prop, Shut (∀ v w', T w w' → G w' → R k v w' → K' ((putF l 0 f a).put o.dst v) w') →
      if Region.wanted o (yielded l.toArray (putF l 0 f a).tmps) = true then Oper.wp P o (putF l 0 f a) w K' Q else K' ((putF l 0 f a).put o.dst undef) w
def StepsR (P : Program) (l : List Oper) (Q : Exit → Act → World → Prop) (T : World → World → Prop) (G : World → Prop) (R : Nat → Value → World → Prop) (a : Act) : Nat → List Oper → Prop
  | _, [] => True
  | k, o :: r => StepR P l Q T G R a k o ∧ StepsR P l Q T G R a (k + 1) r
theorem StepsR.at {l : List Oper} {T : World → World → Prop} {G : World → Prop} {R : Nat → Value → World → Prop} {a : Act} : ∀ {m : List Oper} {k i : Nat} {o : Oper}, StepsR P l Q T G R a k m → m[i]? = some o → StepR P l Q T G R a (k + i) o
  | [], _, _, _, _, h => by cases h
  | x :: r, k, 0, o, hs, h => by
    injection h with h
    subst h
    exact hs.1
  | x :: r, k, i + 1, o, hs, h => by
    have := StepsR.at (i := i) hs.2 (by simpa using h)
    rwa [show k + 1 + i = k + (i + 1) by omega] at this
theorem wp_region_rel {id : Nat} {l : List Oper} {a : Act} {w : World} (T : World → World → Prop) (G : World → Prop) (R : Nat → Value → World → Prop) (hm : P.follows .mixedOrders = true) (hup : upB l.toArray = true) (hdst : dstsB l = true)
    (hT : ∀ k v w w', T w w' → R k v w → R k v w') (h0 : G w.drew) (hst : StepsR P l Q T G R a 0 l) (hd : ∀ (f : Nat → Value) (w : World), G w → (∀ i, i < l.length → R i (f i) w) → Q .normal (putF l 0 f a) w) : (Code.region id l.toArray true).wp P Q a w := by
  have key : ∀ (i : Nat) (o : Oper), l[i]? = some o → StepI P l.toArray Q (fun L a' W => ∃ f : Nat → Value, a' = putF l 0 f a ∧ G W ∧ ∀ k, L.getD k false = true → R k (f k) W) i o := by
    intro i o ho L a' W ⟨f, e, hG, hR⟩ hw hun K' hK
    subst e
    have := hst.at (i := i) ho
    rw [Nat.zero_add] at this
    refine this f W hG (fun j hj => hR j (hw j hj)) K' (fun v w' hTw hG' hRv => hK _ _ ⟨fun j => if j = i then v else f j, ?_, hG', fun k hk => ?_⟩)
    · rw [putF_set l 0 i o f a v hdst ho]
      exact putF_congr _ _ _ _ _ (fun j _ => by rw [Nat.zero_add])
    · by_cases hki : k = i
      · subst hki
        show R k (if k = k then v else f k) w'
        rw [if_pos rfl]; exact hRv
      · show R k (if k = i then v else f k) w'
        rw [if_neg hki]; exact hT _ _ _ _ hTw (hR k (up_set hk (fun e => hki e.symm)))
  refine wp_region_inv (fun L a' W => ∃ f : Nat → Value, a' = putF l 0 f a ∧ G W ∧ ∀ k, L.getD k false = true → R k (f k) W) hm hup ?_ ?_ ?_
  · exact ⟨fun j => getF a (l[j]?), (putF_self [] l a).symm, h0, fun k hk => False.elim (not_up (n := l.length) (j := k) hk)⟩
  · have hall : ∀ (m : List Oper) (k : Nat), (∀ i o, m[i]? = some o → StepI P l.toArray Q (fun L a' W => ∃ f : Nat → Value, a' = putF l 0 f a ∧ G W ∧ ∀ k, L.getD k false = true → R k (f k) W) (k + i) o) → StepsI P l.toArray Q (fun L a' W => ∃ f : Nat → Value, a' = putF l 0 f a ∧ G W ∧ ∀ k, L.getD k false = true → R k (f k) W) k m := by
      intro m
      induction m with
      | nil => intro k _; trivial
      | cons x r ih => exact fun k h => ⟨h 0 x rfl, ih (k + 1) (fun i o hi => by have := h (i + 1) o (by simpa using hi); rwa [show k + (i + 1) = k + 1 + i by omega] at this)⟩
    exact hall l 0 (fun i o hi => by rw [Nat.zero_add]; exact key i o hi)
  · rintro L a' W ⟨f, rfl, hG, hR⟩ hL
    exact hd f W hG (fun i hi => hR i (hL i hi))
end
end Go.Proofs.Ytajpggnmhkpbkaa
