/- Two nets, each with the reference's, that go on apart. -/
import Derived.Test.YtihilifpadpkbaaNtW
set_option linter.unusedVariables false
set_option linter.unusedSimpArgs false
namespace Go.Proofs.Ytihilifpadpkbaa
open Go.RowKit Nt

/-- what acts on the first pair may write is not the other pair's -/
def Apt (g r : Nat) (v : Value) (g' r' : Nat) (v' lv' av' : Value) : Prop := ∀ i, Fo g r v i → i ≠ g' ∧ i ≠ r' ∧ v'.ownBlock ≠ some i ∧ lv'.ownBlock ≠ some i ∧ av'.ownBlock ≠ some i
structure Four (W : World) (B g r : Nat) (k : Int) (s : St) (v lv av : Value) (g' r' : Nat) (s' : St) (v' lv' av' : Value) : Prop where
  one : Two W B g r k s.1 v lv av s.2
  two : Two W B g' r' k s'.1 v' lv' av' s'.2
  ab : Apt g r v g' r' v' lv' av'
  ba : Apt g' r' v' g r v lv av
section
variable {W W' : World} {B g r g' r' : Nat} {k : Int} {s s' t : St} {v lv av v' lv' av' : Value}
theorem Four.swap (f : Four W B g r k s v lv av g' r' s' v' lv' av') : Four W B g' r' k s' v' lv' av' g r s v lv av := ⟨f.two, f.one, f.ba, f.ab⟩
theorem Two.lt (f : Two W B g r k s.1 v lv av s.2) : g < W.heap.size ∧ r < W.heap.size ∧ (∀ i, v.ownBlock = some i → i < W.heap.size) ∧ (∀ i, lv.ownBlock = some i → i < W.heap.size) ∧ ∀ i, av.ownBlock = some i → i < W.heap.size :=
  ⟨block_lt f.nn.2.1, block_lt f.rr.row, fun i hi => (recs_base f.nn.2.2.1 hi).2, fun i hi => (f.rr.lg i hi).2.1, fun i hi => (f.rr.ag i hi).2.1⟩
theorem Four.turn {S : Nat → Prop} (f : Four W B g r k s v lv av g' r' s' v' lv' av') (h : Turn S W W') (hS : ∀ i, S i → W.heap.size ≤ i) : Four W' B g r k s v lv av g' r' s' v' lv' av' := by
  have l1 := f.one.lt
  have l2 := f.two.lt
  refine ⟨f.one.turn h (fun e => by have := hS _ e; omega) (fun e => by have := hS _ e; omega) (fun b hb e => by have h1 := hS _ e; have h2 := l1.2.2.1 b hb; omega) (fun b hb e => by have h1 := hS _ e; have h2 := l1.2.2.2.1 b hb; omega) (fun b hb e => by have h1 := hS _ e; have h2 := l1.2.2.2.2 b hb; omega),
    f.two.turn h (fun e => by have := hS _ e; omega) (fun e => by have := hS _ e; omega) (fun b hb e => by have h1 := hS _ e; have h2 := l2.2.2.1 b hb; omega) (fun b hb e => by have h1 := hS _ e; have h2 := l2.2.2.2.1 b hb; omega) (fun b hb e => by have h1 := hS _ e; have h2 := l2.2.2.2.2 b hb; omega), f.ab, f.ba⟩
theorem Four.below (f : Four W B g r k s v lv av g' r' s' v' lv' av') (h : Below W.heap.size W W') : Four W' B g r k s v lv av g' r' s' v' lv' av' := f.turn (.of_below h) (S := fun _ => False) (fun i h => h.elim)
theorem Four.step (f : Four W B g r k s v lv av g' r' s' v' lv' av') (d : Done W B g r k v lv av t W') : ∃ v1 lv1 av1, Four W' B g r k t v1 lv1 av1 g' r' s' v' lv' av' := by
  obtain ⟨⟨v1, lv1, av1, h1, hv, hl, ha⟩, ht⟩ := d
  have l1 := f.one.lt
  have l2 := f.two.lt
  refine ⟨v1, lv1, av1, ⟨h1, f.two.turn ht (fun e => (f.ab _ e).1 rfl) (fun e => (f.ab _ e).2.1 rfl) (fun b hb e => (f.ab _ e).2.2.1 hb) (fun b hb e => (f.ab _ e).2.2.2.1 hb) (fun b hb e => (f.ab _ e).2.2.2.2 hb), fun i hi => ?_, fun i hi => ?_⟩⟩
  · rcases hi with e | e | e
    · exact f.ab i (.inl e)
    · exact f.ab i (.inr (.inl e))
    · rcases hv i e with h | h
      · exact f.ab i (.inr (.inr h))
      · exact ⟨by omega, by omega, fun e => by have := l2.2.2.1 i e; omega, fun e => by have := l2.2.2.2.1 i e; omega, fun e => by have := l2.2.2.2.2 i e; omega⟩
  · have h0 := f.ba i hi
    have hlt : i < W.heap.size := by
      rcases hi with e | e | e
      · omega
      · omega
      · exact l2.2.2.1 i e
    exact ⟨h0.1, h0.2.1, fun e => by rcases hv i e with h | h; exact h0.2.2.1 h; omega, fun e => by rcases hl i e with h | h; exact h0.2.2.2.1 h; omega, fun e => by rcases ha i e with h | h; exact h0.2.2.2.2 h; omega⟩
/-- a net and its copy -/
theorem Four.copy {W1 W2 : World} {vo : Value} (t : Two W B g r k s.1 v lv av s.2) (hn : IsN W1 W.heap.size g' k s.1 vo s.2) (hb : Below W.heap.size W W1) (hr : IsR W2 B r' k s.1 lv av s.2) (hr1 : W1.heap.size ≤ r') (hb2 : Below W1.heap.size W1 W2) (hB : B ≤ W.heap.size) : Four W2 B g r k s v lv av g' r' s vo lv av := by
  have l1 := t.lt
  have hg := block_lt hn.2.1
  have hg1 := hn.1
  have hvo := fun i (hi : vo.ownBlock = some i) => recs_base hn.2.2.1 hi
  have hsz := hb.size
  refine ⟨(t.below hb).below hb2, ⟨⟨Nat.le_trans hB hg1, (hb2.block _ hg).trans hn.2.1, own_monoR (recs_below hn.2.2.1 hb2) hB, hn.2.2.2⟩, hr, by omega, fun e => by have := hvo _ e; omega, fun i hi => ⟨by have := l1.2.2.2.1 i hi; omega, fun e => by have h1 := hvo i e; have h2 := l1.2.2.2.1 i hi; omega⟩, fun i hi => ⟨by have := l1.2.2.2.2 i hi; omega, fun e => by have h1 := hvo i e; have h2 := l1.2.2.2.2 i hi; omega⟩⟩, fun i hi => ?_, fun i hi => ?_⟩
  · have hlt : i < W.heap.size := by
      rcases hi with e | e | e
      · omega
      · omega
      · exact l1.2.2.1 i e
    refine ⟨by omega, by omega, fun e => by have := hvo i e; omega, fun e => ?_, fun e => ?_⟩
    · have h0 := t.lg i e
      rcases hi with e1 | e1 | e1
      · exact h0.1 e1
      · exact (t.rr.lg i e).2.2 e1
      · exact h0.2 e1
    · have h0 := t.ag i e
      rcases hi with e1 | e1 | e1
      · exact h0.1 e1
      · exact (t.rr.ag i e).2.2 e1
      · exact h0.2 e1
  · have hge : W.heap.size ≤ i := by
      rcases hi with e | e | e
      · omega
      · omega
      · exact (hvo i e).1
    exact ⟨by omega, by omega, fun e => by have := l1.2.2.1 i e; omega, fun e => by have := l1.2.2.2.1 i e; omega, fun e => by have := l1.2.2.2.2 i e; omega⟩
end
theorem Nt.Fine.more {k : Int} {n m : Nat} {s : St} (h : Nt.Fine k n s) (hm : n ≤ m) : Nt.Fine k m s := ⟨Nat.le_trans h.len (Nat.mul_le_mul_left 20 hm), h.age⟩
theorem own_room {w : World} {base e : Nat} {n m c : Nat} {q : Option Addr} {xs : List Value} (h : w.ownsRow base e n (.slice q m c) m xs) : m = 0 ∨ ∃ xb cs, q = some ⟨xb, 0, none⟩ ∧ base ≤ xb ∧ w.heap[xb]? = some (.cells cs e (0, 0)) ∧ m * n ≤ cs.size := by
  rcases h.2 with ⟨_, h0⟩ | ⟨g, cap, cur, he, hg, hh, hl, _, hs, _⟩
  · exact .inl h0
  · injection he with h1 h2 h3
    exact .inr ⟨g, cur, h1, hg, hh, by rw [hs]; exact Nat.mul_le_mul_right n hl⟩
theorem heap_setCells_same : ∀ (vs : List Value) (w : World) (g o : Nat) (cs : Array Value) (e : TypeId), w.heap[g]? = some (.cells cs e (0, 0)) → ∃ ds, (w.setCells g o vs).heap[g]? = some (.cells ds e (0, 0)) ∧ ds.size = cs.size
  | [], _, _, _, cs, _, h => ⟨cs, h, rfl⟩
  | u :: r, w, g, o, cs, e, h => by
    rw [World.setCells]
    obtain ⟨ds, h1, h2⟩ := heap_setCells_same r _ g (o + 1) _ e (heap_setCell_same w g o _ _ u h)
    exact ⟨ds, h1, by rw [h2]; simp⟩
theorem Turn.setCells {S : Nat → Prop} {a : World} {g : Nat} (hg : S g) : ∀ (vs : List Value) (o : Nat) (w : World), Turn S a w → Turn S a (w.setCells g o vs)
  | [], _, _, h => h
  | v :: r, o, w, h => by
    rw [World.setCells]
    exact Turn.setCells hg r (o + 1) _ (h.setCell hg o v)
end Go.Proofs.Ytihilifpadpkbaa
