/- A region that draws its order, by what each operation leaves: one claim (of operation d) ends when operation s comes up ('append' to what d made). -/
import Derived.Test.YtajpggnmhkpbkaaRjn45

set_option linter.unusedVariables false
set_option linter.unusedSimpArgs false
namespace Go.Proofs.Ytajpggnmhkpbkaa
open Go.RowKit Go.Deep
section
variable {P : Program}
def StepD (P : Program) (l : List Oper) (Q : Exit → Act → World → Prop) (d s : Nat) (T T2 : World → World → Prop) (G : World → Prop) (R : Nat → Value → World → Prop) (a : Act) (k : Nat) (o : Oper) : Prop :=
  ∀ (f : Nat → Value) (w : World), G w → (∀ j, waitsB .any l.toArray k j = true → (j = d → k = s) → R j (f j) w) →
    ∀ K' : Act → World → Prop, Shut (∀ v w', (k ≠ s → T w w') → (k = s → T2 w w') → G w' → R k v w' → K' ((putF l 0 f a).put o.dst v) w') →
      if Region.wanted o (yielded l.toArray (putF l 0 f a).tmps) = true then Oper.wp P o (putF l 0 f a) w K' Q else K' ((putF l 0 f a).put o.dst undef) w
def StepsD (P : Program) (l : List Oper) (Q : Exit → Act → World → Prop) (d s : Nat) (T T2 : World → World → Prop) (G : World → Prop) (R : Nat → Value → World → Prop) (a : Act) : Nat → List Oper → Prop
  | _, [] => True
  | k, o :: r => StepD P l Q d s T T2 G R a k o ∧ StepsD P l Q d s T T2 G R a (k + 1) r
theorem StepsD.at {l : List Oper} {Q : Exit → Act → World → Prop} {d s : Nat} {T T2 : World → World → Prop} {G : World → Prop} {R : Nat → Value → World → Prop} {a : Act} : ∀ {m : List Oper} {k i : Nat} {o : Oper}, StepsD P l Q d s T T2 G R a k m → m[i]? = some o → StepD P l Q d s T T2 G R a (k + i) o
  | [], _, _, _, _, h => by cases h
  | x :: r, k, 0, o, hs, h => by
    injection h with h
    subst h
    exact hs.1
  | x :: r, k, i + 1, o, hs, h => by
    have := StepsD.at (i := i) hs.2 (by simpa using h)
    rwa [show k + 1 + i = k + (i + 1) by omega] at this
def lateB (l : Array Oper) (late : Nat → Bool) (s : Nat) : Bool := (List.range l.size).all fun i => !late i || waitsB .any l i s || (List.range l.size).any fun j => late j && waitsB .any l i j
theorem wp_region_dies {Q : Exit → Act → World → Prop} {id : Nat} {l : List Oper} {a : Act} {w : World} (d s : Nat) (late : Nat → Bool) (T T2 : World → World → Prop) (G : World → Prop) (R : Nat → Value → World → Prop) (hlate : lateB l.toArray late s = true) (hm : P.follows .mixedOrders = true) (hup : upB l.toArray = true) (hdst : dstsB l = true)
    (hT : ∀ k v w w', T w w' → R k v w → R k v w') (hT2 : ∀ k v w w', k ≠ d → k ≠ s → late k = false → T2 w w' → R k v w → R k v w') (h0 : G w.drew) (hst : StepsD P l Q d s T T2 G R a 0 l) (hd : ∀ (f : Nat → Value) (w : World), G w → (∀ i, i < l.length → i ≠ d → R i (f i) w) → Q .normal (putF l 0 f a) w)
    (hs : s < l.length) : (Code.region id l.toArray true).wp P Q a w := by
  have key : ∀ (i : Nat) (o : Oper), l[i]? = some o → StepI P l.toArray Q (fun L a' W => ∃ f : Nat → Value, a' = putF l 0 f a ∧ G W ∧ (∀ k, L.getD k false = true → (k = d → L.getD s false = false) → R k (f k) W) ∧ ∀ k, late k = true → L.getD k false = true → L.getD s false = true) i o := by
    intro i o ho L a' W ⟨f, e, hG, hR, hLt⟩ hw hun K' hK
    subst e
    have hun2 : L.getD i false = false ∧ i < L.size := by
      rw [Array.getD_eq_getD_getElem?] at hun ⊢
      cases hq : L[i]? with
      | none => rw [hq] at hun; cases hun
      | some b => rw [hq] at hun; exact ⟨hun, (Array.getElem?_eq_some_iff.1 hq).1⟩
    have := hst.at (i := i) ho
    rw [Nat.zero_add] at this
    refine this f W hG (fun j hj hjd => hR j (hw j hj) (fun e => (hjd e) ▸ hun2.1)) K' (fun v w' hTw hTs hG' hRv => hK _ _ ⟨fun j => if j = i then v else f j, ?_, hG', fun k hk hkd => ?_, fun k hkl hk => ?_⟩)
    · rw [putF_set l 0 i o f a v hdst ho]
      exact putF_congr _ _ _ _ _ (fun j _ => by rw [Nat.zero_add])
    · by_cases hki : k = i
      · subst hki
        show R k (if k = k then v else f k) w'
        rw [if_pos rfl]; exact hRv
      · show R k (if k = i then v else f k) w'
        rw [if_neg hki]
        have hk' := up_set hk (fun e => hki e.symm)
        by_cases his : i = s
        · have hkd' : k ≠ d := fun e => by
            have h1 := hkd e
            rw [← his, Array.getD_eq_getD_getElem?] at h1
            simp [Array.getElem?_setIfInBounds, hun2.2] at h1
          exact hT2 _ _ _ _ hkd' (fun e => hki (e.trans his.symm)) (by cases hq : late k with | false => rfl | true => have h1 := hLt k hq hk'; rw [← his, hun2.1] at h1; cases h1) (hTs his) (hR k hk' (fun e => absurd e hkd'))
        · exact hT _ _ _ _ (hTw his) (hR k hk' (fun e => by have h1 := hkd e; rwa [getD_set_ne false his] at h1))
    · by_cases his : i = s
      · subst his
        rw [Array.getD_eq_getD_getElem?]
        simp [Array.getElem?_setIfInBounds, hun2.2]
      · rw [getD_set_ne false his]
        by_cases hki : k = i
        · subst hki
          have hsz : k < l.toArray.size := by have := (List.getElem?_eq_some_iff.1 ho).1; simpa using this
          have h1 := List.all_eq_true.1 hlate k (List.mem_range.2 hsz)
          rw [hkl] at h1
          simp only [Bool.not_true, Bool.false_or, Bool.or_eq_true, List.any_eq_true, Bool.and_eq_true] at h1
          rcases h1 with h1 | ⟨j, _, h2, h3⟩
          · exact hw s h1
          · exact hLt j h2 (hw j h3)
        · exact hLt k hkl (up_set hk (fun e => hki e.symm))
  refine wp_region_inv (fun L a' W => ∃ f : Nat → Value, a' = putF l 0 f a ∧ G W ∧ (∀ k, L.getD k false = true → (k = d → L.getD s false = false) → R k (f k) W) ∧ ∀ k, late k = true → L.getD k false = true → L.getD s false = true) hm hup ?_ ?_ ?_
  · exact ⟨fun j => getF a (l[j]?), (putF_self [] l a).symm, h0, fun k hk => False.elim (not_up (n := l.length) (j := k) hk), fun k _ hk => False.elim (not_up (n := l.length) (j := k) hk)⟩
  · have hall : ∀ (m : List Oper) (k : Nat), (∀ i o, m[i]? = some o → StepI P l.toArray Q (fun L a' W => ∃ f : Nat → Value, a' = putF l 0 f a ∧ G W ∧ (∀ k, L.getD k false = true → (k = d → L.getD s false = false) → R k (f k) W) ∧ ∀ k, late k = true → L.getD k false = true → L.getD s false = true) (k + i) o) → StepsI P l.toArray Q (fun L a' W => ∃ f : Nat → Value, a' = putF l 0 f a ∧ G W ∧ (∀ k, L.getD k false = true → (k = d → L.getD s false = false) → R k (f k) W) ∧ ∀ k, late k = true → L.getD k false = true → L.getD s false = true) k m := by
      intro m
      induction m with
      | nil => intro k _; trivial
      | cons x r ih => exact fun k h => ⟨h 0 x rfl, ih (k + 1) (fun i o hi => by have := h (i + 1) o (by simpa using hi); rwa [show k + (i + 1) = k + 1 + i by omega] at this)⟩
    exact hall l 0 (fun i o hi => by rw [Nat.zero_add]; exact key i o hi)
  · rintro L a' W ⟨f, rfl, hG, hR, -⟩ hL
    exact hd f W hG (fun i hi hid => hR i (hL i hi) (fun e => absurd e hid))
end
end Go.Proofs.Ytajpggnmhkpbkaa
