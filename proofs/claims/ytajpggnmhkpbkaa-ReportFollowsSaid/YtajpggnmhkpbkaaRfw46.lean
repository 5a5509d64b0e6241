/- A region that draws its order and ends with one store into a box made in it: a law by what each operation leaves. -/
import Derived.Test.YtajpggnmhkpbkaaRfw45

set_option linter.unusedVariables false
set_option linter.unusedSimpArgs false
namespace Go.Proofs.Ytajpggnmhkpbkaa
open Go.RowKit Go.Deep
theorem no_ft {X : Bool} {A : Prop} (h1 : X = false) (h2 : X = true) : A := by rw [h1] at h2; cases h2
theorem itePos {c : Prop} [Decidable c] {A B : Prop} (h : c) (a : A) : if c then A else B := by rw [if_pos h]; exact a
theorem iteNeg {c : Prop} [Decidable c] {A B : Prop} (h : ¬ c) (b : B) : if c then A else B := by rw [if_neg h]; exact b
section
variable {P : Program}

/-- an operation that the store does not wait for: it turns no world -/
def StepE (P : Program) (l : List Oper) (Q : Exit → Act → World → Prop) (E : Nat → Value → Prop) (a : Act) (k : Nat) (o : Oper) : Prop :=
  ∀ (f : Nat → Value) (w : World), (∀ j, waitsB .any l.toArray k j = true → E j (f j)) →
    ∀ K' : Act → World → Prop, Shut (∀ v w', w' = w → E k v → K' ((putF l 0 f a).put o.dst v) w') →
      if Region.wanted o (yielded l.toArray (putF l 0 f a).tmps) = true then Oper.wp P o (putF l 0 f a) w K' Q else K' ((putF l 0 f a).put o.dst undef) w
/-- the store -/
def StepS (P : Program) (l : List Oper) (Q : Exit → Act → World → Prop) (G : World → Prop) (R : Nat → Value → World → Prop) (E : Nat → Value → Prop) (Fin : (Nat → Value) → World → Prop) (a : Act) (k : Nat) (o : Oper) : Prop :=
  ∀ (f : Nat → Value) (w : World), G w → (∀ j, waitsB .any l.toArray k j = true → R j (f j) w) →
    ∀ K' : Act → World → Prop, Shut (∀ v w', E k v → Fin f w' → K' ((putF l 0 f a).put o.dst v) w') →
      if Region.wanted o (yielded l.toArray (putF l 0 f a).tmps) = true then Oper.wp P o (putF l 0 f a) w K' Q else K' ((putF l 0 f a).put o.dst undef) w
def StepsB (P : Program) (l : List Oper) (Q : Exit → Act → World → Prop) (s : Nat) (T : World → World → Prop) (G : World → Prop) (R : Nat → Value → World → Prop) (E : Nat → Value → Prop) (Fin : (Nat → Value) → World → Prop) (a : Act) : Nat → List Oper → Prop
  | _, [] => True
  | k, o :: r => (if k = s then StepS P l Q G R E Fin a k o else if waitsB .any l.toArray s k = true then StepR P l Q T G R a k o else StepE P l Q E a k o) ∧ StepsB P l Q s T G R E Fin a (k + 1) r
theorem StepsB.consS {l : List Oper} {Q : Exit → Act → World → Prop} {s : Nat} {T : World → World → Prop} {G : World → Prop} {R : Nat → Value → World → Prop} {E : Nat → Value → Prop} {Fin : (Nat → Value) → World → Prop} {a : Act} {k : Nat} {o : Oper} {r : List Oper} (hk : k = s) (h : StepS P l Q G R E Fin a k o) (t : StepsB P l Q s T G R E Fin a (k + 1) r) : StepsB P l Q s T G R E Fin a k (o :: r) := ⟨by rw [if_pos hk]; exact h, t⟩
theorem StepsB.consR {l : List Oper} {Q : Exit → Act → World → Prop} {s : Nat} {T : World → World → Prop} {G : World → Prop} {R : Nat → Value → World → Prop} {E : Nat → Value → Prop} {Fin : (Nat → Value) → World → Prop} {a : Act} {k : Nat} {o : Oper} {r : List Oper} (hk : ¬ k = s) (hw : waitsB .any l.toArray s k = true) (h : StepR P l Q T G R a k o) (t : StepsB P l Q s T G R E Fin a (k + 1) r) : StepsB P l Q s T G R E Fin a k (o :: r) := ⟨by rw [if_neg hk, if_pos hw]; exact h, t⟩
theorem StepsB.consE {l : List Oper} {Q : Exit → Act → World → Prop} {s : Nat} {T : World → World → Prop} {G : World → Prop} {R : Nat → Value → World → Prop} {E : Nat → Value → Prop} {Fin : (Nat → Value) → World → Prop} {a : Act} {k : Nat} {o : Oper} {r : List Oper} (hk : ¬ k = s) (hw : waitsB .any l.toArray s k = false) (h : StepE P l Q E a k o) (t : StepsB P l Q s T G R E Fin a (k + 1) r) : StepsB P l Q s T G R E Fin a k (o :: r) := ⟨by rw [if_neg hk, if_neg (by rw [hw]; decide)]; exact h, t⟩
theorem StepsB.at {l : List Oper} {Q : Exit → Act → World → Prop} {s : Nat} {T : World → World → Prop} {G : World → Prop} {R : Nat → Value → World → Prop} {E : Nat → Value → Prop} {Fin : (Nat → Value) → World → Prop} {a : Act} : ∀ {m : List Oper} {k i : Nat} {o : Oper}, StepsB P l Q s T G R E Fin a k m → m[i]? = some o →
    (if k + i = s then StepS P l Q G R E Fin a (k + i) o else if waitsB .any l.toArray s (k + i) = true then StepR P l Q T G R a (k + i) o else StepE P l Q E a (k + i) o)
  | [], _, _, _, _, h => by cases h
  | x :: r, k, 0, o, hs, h => by
    injection h with h
    subst h
    exact hs.1
  | x :: r, k, i + 1, o, hs, h => by
    have := StepsB.at (i := i) hs.2 (by simpa using h)
    rwa [show k + 1 + i = k + (i + 1) by omega] at this
theorem wp_region_box {Q : Exit → Act → World → Prop} {id : Nat} {l : List Oper} {a : Act} {w : World} (s : Nat) (T : World → World → Prop) (G : World → Prop) (R : Nat → Value → World → Prop) (E : Nat → Value → Prop) (Fin : (Nat → Value) → World → Prop)
    (hm : P.follows .mixedOrders = true) (hup : upB l.toArray = true) (hdst : dstsB l = true) (hs : s < l.length)
    (hT : ∀ k v w w', T w w' → R k v w → R k v w') (hRE : ∀ k v w, R k v w → E k v) (hER : ∀ k v w, k ≠ s → waitsB .any l.toArray s k = false → E k v → R k v w) (hF : ∀ f g W, (∀ j, waitsB .any l.toArray s j = true → f j = g j) → Fin f W → Fin g W)
    (h0 : G w.drew) (hst : StepsB P l Q s T G R E Fin a 0 l) (hd : ∀ (f : Nat → Value) (w : World), Fin f w → (∀ i, i < l.length → E i (f i)) → Q .normal (putF l 0 f a) w) : (Code.region id l.toArray true).wp P Q a w := by
  let I : Array Bool → Act → World → Prop := fun L a' W => ∃ f : Nat → Value, a' = putF l 0 f a ∧ (∀ k, L.getD k false = true → E k (f k)) ∧ (L.getD s false = false → G W ∧ ∀ k, L.getD k false = true → R k (f k) W) ∧ (L.getD s false = true → Fin f W ∧ ∀ j, waitsB .any l.toArray s j = true → L.getD j false = true)
  have key : ∀ (i : Nat) (o : Oper), l[i]? = some o → StepI P l.toArray Q I i o := by
    intro i o ho L a' W ⟨f, e, hE, hA, hZ⟩ hw hun K' hK
    subst e
    have hun2 : L.getD i false = false ∧ i < L.size := by
      rw [Array.getD_eq_getD_getElem?] at hun ⊢
      cases hq : L[i]? with
      | none => rw [hq] at hun; cases hun
      | some b => rw [hq] at hun; exact ⟨hun, (Array.getElem?_eq_some_iff.1 hq).1⟩
    replace hun := hun2.1
    have hst' := hst.at (i := i) ho
    rw [Nat.zero_add] at hst'
    have hput : ∀ v, (putF l 0 f a).put o.dst v = putF l 0 (fun j => if j = i then v else f j) a := fun v => by
      rw [putF_set l 0 i o f a v hdst ho]
      exact putF_congr _ _ _ _ _ (fun j _ => by rw [Nat.zero_add])
    have hEn : ∀ v, E i v → ∀ k, (L.setIfInBounds i true).getD k false = true → E k (if k = i then v else f k) := fun v hv k hk => by
      by_cases hki : k = i
      · rw [if_pos hki, hki]; exact hv
      · rw [if_neg hki]; exact hE k (up_set hk (fun e => hki e.symm))
    by_cases his : i = s
    · subst his
      rw [if_pos rfl] at hst'
      obtain ⟨hG, hR⟩ := hA hun
      refine hst' f W hG (fun j hj => hR j (hw j hj)) K' (fun v w' hv hfin => hK _ _ ⟨fun j => if j = i then v else f j, hput v, hEn v hv, fun h => ?_, fun _ => ⟨hF f _ w' (fun j hj => ?_) hfin, fun j hj => ?_⟩⟩)
      · exfalso
        rw [Array.getD_eq_getD_getElem?, Array.getElem?_setIfInBounds_self_of_lt hun2.2] at h
        cases h
      · have : j ≠ i := fun e => by
          subst e
          have := hw j hj
          rw [hun] at this
          cases this
        show f j = if j = i then v else f j
        rw [if_neg this]
      · have h1 := hw j hj
        by_cases hji : i = j
        · subst hji; rw [hun] at h1; cases h1
        · rw [getD_set_ne false hji]; exact h1
    · rw [if_neg his] at hst'
      have hsn : (L.setIfInBounds i true).getD s false = L.getD s false := getD_set_ne false his
      by_cases hws : waitsB .any l.toArray s i = true
      · rw [if_pos hws] at hst'
        have hsf : L.getD s false = false := by
          cases hq : L.getD s false
          · rfl
          · have := (hZ hq).2 i hws
            rw [hun] at this
            cases this
        obtain ⟨hG, hR⟩ := hA hsf
        refine hst' f W hG (fun j hj => hR j (hw j hj)) K' (fun v w' hTw hG' hRv => hK _ _ ⟨fun j => if j = i then v else f j, hput v, hEn v (hRE _ _ _ hRv), fun _ => ⟨hG', fun k hk => ?_⟩, fun h => ?_⟩)
        · by_cases hki : k = i
          · subst hki
            show R k (if k = k then v else f k) w'
            rw [if_pos rfl]; exact hRv
          · show R k (if k = i then v else f k) w'
            rw [if_neg hki]; exact hT _ _ _ _ hTw (hR k (up_set hk (fun e => hki e.symm)))
        · rw [hsn, hsf] at h; cases h
      · rw [if_neg hws] at hst'
        have hwf : waitsB .any l.toArray s i = false := by simpa using hws
        refine hst' f W (fun j hj => hE j (hw j hj)) K' (fun v w' he hv => hK _ _ ⟨fun j => if j = i then v else f j, hput v, hEn v hv, fun h => ?_, fun h => ?_⟩)
        · subst he
          obtain ⟨hG, hR⟩ := hA (by rw [← hsn]; exact h)
          refine ⟨hG, fun k hk => ?_⟩
          by_cases hki : k = i
          · subst hki
            show R k (if k = k then v else f k) w'
            rw [if_pos rfl]; exact hER k v w' his hwf hv
          · show R k (if k = i then v else f k) w'
            rw [if_neg hki]; exact hR k (up_set hk (fun e => hki e.symm))
        · subst he
          obtain ⟨hfin, hcl⟩ := hZ (by rw [← hsn]; exact h)
          refine ⟨hF f _ w' (fun j hj => ?_) hfin, fun j hj => ?_⟩
          · show f j = if j = i then v else f j
            rw [if_neg (fun e => by subst e; rw [hwf] at hj; cases hj)]
          · rw [getD_set_ne false (fun e => by subst e; rw [hwf] at hj; cases hj)]
            exact hcl j hj
  refine wp_region_inv I hm hup ?_ ?_ ?_
  · exact ⟨fun j => getF a (l[j]?), (putF_self [] l a).symm, fun k hk => False.elim (not_up (n := l.length) (j := k) hk), fun _ => ⟨h0, fun k hk => False.elim (not_up (n := l.length) (j := k) hk)⟩, fun h => False.elim (not_up (n := l.length) (j := s) h)⟩
  · have hall : ∀ (m : List Oper) (k : Nat), (∀ i o, m[i]? = some o → StepI P l.toArray Q I (k + i) o) → StepsI P l.toArray Q I k m := by
      intro m
      induction m with
      | nil => intro k _; trivial
      | cons x r ih => exact fun k h => ⟨h 0 x rfl, ih (k + 1) (fun i o hi => by have := h (i + 1) o (by simpa using hi); rwa [show k + (i + 1) = k + 1 + i by omega] at this)⟩
    exact hall l 0 (fun i o hi => by rw [Nat.zero_add]; exact key i o hi)
  · rintro L a' W ⟨f, rfl, hE, _, hZ⟩ hL
    exact hd f W (hZ (hL s hs)).1 (fun i hi => hE i (hL i hi))
end
/-- blocks below B, and those that are no boxes of the type e, stay; boxes stay boxes of n cells -/
structure KeptB (B : Nat) (e : TypeId) (n : Nat) (w w' : World) : Prop where
  os : w'.os = w.os
  tape : w'.tape = w.tape
  output : w'.output = w.output
  size : w.heap.size ≤ w'.heap.size
  block : ∀ k : Nat, k < w.heap.size → (k < B ∨ ∀ cs : Array Value, w.heap[k]? ≠ some (Obj.cells cs e (0, 0))) → w'.heap[k]? = w.heap[k]?
  box : ∀ (k : Nat) (cs : Array Value), w.heap[k]? = some (Obj.cells cs e (0, 0)) → cs.size = n → ∃ cs' : Array Value, cs'.size = n ∧ w'.heap[k]? = some (.cells cs' e (0, 0))
theorem KeptB.refl (B : Nat) (e : TypeId) (n : Nat) (w : World) : KeptB B e n w w := ⟨rfl, rfl, rfl, Nat.le_refl _, fun _ _ _ => rfl, fun _ cs h hn => ⟨cs, hn, h⟩⟩
theorem KeptB.of_below {B : Nat} {e : TypeId} {n : Nat} {w w' : World} (h : Below w.heap.size w w') : KeptB B e n w w' := ⟨h.os, h.tape, h.output, h.size, fun k hk _ => h.block k hk, fun k cs hc hn => ⟨cs, hn, (h.block k (block_lt hc)).trans hc⟩⟩
theorem KeptB.below {B : Nat} {e : TypeId} {n : Nat} {a w w' : World} (h : Below B a w) (hB : B ≤ w.heap.size) (k : KeptB B e n w w') : Below B a w' :=
  h.trans ⟨k.os, k.tape, k.output, k.size, fun i hi => k.block i (by omega) (.inl hi)⟩
theorem KeptB.own {B : Nat} {e : TypeId} {n : Nat} {w w' : World} (k : KeptB B e n w w') {b e' n' m : Nat} {v : Value} {xs : List Value} (hne : e' ≠ e) (h : w.ownsRow b e' n' v m xs) : w'.ownsRow b e' n' v m xs := by
  obtain ⟨h1, h2 | ⟨g, cap, cur, rfl, hg, hh, h3⟩⟩ := h
  · exact ⟨h1, .inl h2⟩
  · refine ⟨h1, .inr ⟨g, cap, cur, rfl, hg, (k.block g (block_lt hh) (.inr fun cs hc => ?_)).trans hh, h3⟩⟩
    rw [hh] at hc
    injection hc with hc
    injection hc with _ hc _
    exact hne hc
theorem KeptB.alloc {B : Nat} {e : TypeId} {n : Nat} (w : World) (o : Obj) : KeptB B e n w (w.alloc o) := .of_below ((Below.refl _ _).alloc (Nat.le_refl _) o)
theorem KeptB.store {B : Nat} {e : TypeId} {n : Nat} {w : World} {N : Nat} {cs : Array Value} (hN : w.heap[N]? = some (.cells cs e (0, 0))) (hn : cs.size = n) (hB : B ≤ N) (vs : List Value) (hv : vs.length = n) : KeptB B e n w (w.setCells N 0 vs) ∧ (w.setCells N 0 vs).heap[N]? = some (.cells vs.toArray e (0, 0)) := by
  have hr : (w.setCells N 0 vs).heap[N]? = some (.cells vs.toArray e (0, 0)) := setCells_rowT (zs := cs.toList) (by simpa using hN) (by simp [hn, hv])
  have ho : Only N w (w.setCells N 0 vs) := (Only.refl N w).setCells 0 vs
  refine ⟨⟨ho.os, ho.tape, ho.output, ho.size, fun k hk h => ho.block k hk (fun e1 => ?_), fun k cs' hc hn' => ?_⟩, hr⟩
  · subst e1
    rcases h with h | h
    · omega
    · exact h cs hN
  · by_cases hk : k = N
    · subst hk
      exact ⟨vs.toArray, by simpa using hv, hr⟩
    · exact ⟨cs', hn', (ho.block k (block_lt hc) hk).trans hc⟩
end Go.Proofs.Ytajpggnmhkpbkaa
