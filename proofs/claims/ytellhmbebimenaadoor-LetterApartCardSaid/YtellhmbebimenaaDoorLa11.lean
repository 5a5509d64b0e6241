/- Contracts of package wire's Reader: Number of any size, Int, Flag, Blob, Text, Count. What a part that was taken off a reader leaves: the reader, and the place where it was put. -/
import Derived.Test.YtellhmbebimenaaDoorLa10
import Derived.Test.YtellhmbebimenaaDoorLa3

section
set_option linter.unusedVariables false
set_option linter.unusedSimpArgs false
namespace Go.Proofs.YtellhmbebimenaaDoor
open Go.RowKit

theorem own_mono {w : World} {base base' : Nat} {e : TypeId} {n : Nat} {v : Value} {xs : List Value} (h : w.ownsRow base e 1 v n xs) (hb : base' ≤ base) : w.ownsRow base' e 1 v n xs := by
  obtain ⟨hl, hor⟩ := h
  refine ⟨hl, ?_⟩
  rcases hor with h | ⟨g', cap', cur, e, hg, h4⟩
  · exact .inl h
  · exact .inr ⟨g', cap', cur, e, Nat.le_trans hb hg, h4⟩
theorem rnumber_any (base br : Nat) (st : Option (List UInt8)) (size : Int) (w : World) (h : IsR w base br st) :
    Calls Tryd.prog 54 #[.pointer (some ⟨br, 0, none⟩), .int .i64 size] w fun e w' => e = .returned (.int .u64 (rNumV st size : Int)) ∧ RStep w w' base br (rNumS st size) := by
  by_cases hs : rSize size = true
  · have h2 : ∃ k : Nat, (k = 1 ∨ k = 2 ∨ k = 4 ∨ k = 8) ∧ size = (k : Int) := by
      unfold rSize at hs
      simp only [Bool.or_eq_true, beq_iff_eq] at hs
      exact ⟨size.toNat, by omega, by omega⟩
    obtain ⟨k, hk, rfl⟩ := h2
    refine (rnumber_fit base br st k hk w h).mono ?_
    rintro e w' ⟨rfl, hr⟩
    unfold rNumV rNumS
    rw [if_pos hs, if_pos hs]
    exact ⟨rfl, hr⟩
  · refine (rnumber_bad base br st size (by simpa using hs) w h).mono ?_
    rintro e w' ⟨rfl, hr⟩
    unfold rNumV rNumS
    rw [if_neg hs, if_neg hs]
    exact ⟨rfl, hr⟩
theorem rNumV_lt (st : Option (List UInt8)) (k : Nat) : rNumV st (k : Int) < 256 ^ k := by
  unfold rNumV
  split
  · have h1 := beVal_lt _ (rBy st (k : Int)) rfl
    exact Nat.lt_of_lt_of_le h1 (Nat.pow_le_pow_right (by decide) (rBy_le st k))
  · exact Nat.pow_pos (by decide)

set_option maxRecDepth 4000 in
set_option maxHeartbeats 1000000 in
theorem rtake_any (base br : Nat) (st : Option (List UInt8)) (size : Int) (w : World) (h : IsR w base br st) :
    Calls Tryd.prog 124 #[.func (.func 54) #[.pointer (some ⟨br, 0, none⟩)] #[], .int .i64 size] w fun e w' => e = .returned (.int .u64 (rNumV st size : Int)) ∧ RStep w w' base br (rNumS st size) := by
  have HNU := Lib.hid (rnumber_any base br st size w h)
  generalize rNumV st size = V at *
  go_enter Tryd.func124, Tryd.ntmps124
  go_wp2_with fail
  refine HNU.out.mono ?_
  rintro e w1 ⟨rfl, hr⟩
  have HR := Lib.hid hr; clear hr
  go_wp2
  go_ret
  exact ⟨rfl, HR.out⟩

set_option maxRecDepth 4000 in
set_option maxHeartbeats 1000000 in
theorem rint_any (base br : Nat) (st : Option (List UInt8)) (w : World) (h : IsR w base br st) :
    Calls Tryd.prog 77 #[.pointer (some ⟨br, 0, none⟩)] w fun e w' => e = .returned (.int .i64 (wrap64 (rNumV st 8 : Int))) ∧ RStep w w' base br (rNumS st 8) := by
  have HNU := Lib.hid (rtake_any base br st 8 w h)
  have hlt := rNumV_lt st 8
  change rNumV st 8 < 18446744073709551616 at hlt
  generalize rNumV st 8 = V at *
  go_enter Tryd.func77, Tryd.ntmps77
  go_wp2_with fail
  refine HNU.out.mono ?_
  rintro e w1 ⟨rfl, hr⟩
  have HR := Lib.hid hr; clear hr
  go_wp2
  go_ret
  exact ⟨rfl, HR.out⟩

/-- what Blob tells, and leaves -/
def rBlobV (st : Option (List UInt8)) : List UInt8 := if rNumV st 4 > 16777216 then [] else rBy (rNumS st 4) (rNumV st 4 : Nat)
def rBlobS (st : Option (List UInt8)) : Option (List UInt8) := if rNumV st 4 > 16777216 then none else rRest (rNumS st 4) (rNumV st 4 : Nat)

end Go.Proofs.YtellhmbebimenaaDoor
end

section
set_option linter.unusedVariables false
set_option linter.unusedSimpArgs false
namespace Go.Proofs.YtellhmbebimenaaDoor
open Go.RowKit

/-- types that a reader is made of -/
def RU : List TypeId := [156, 5]
theorem ru_rt {t : TypeId} (h : t ∉ RU) : t ∉ RT := fun k => h (by unfold RT at k; unfold RU; rw [List.mem_singleton.1 k]; simp)
/-- all blocks but one, of other types than a reader's, stay -/
structure KeptB (b : Nat) (w w' : World) : Prop where
  size : w.heap.size ≤ w'.heap.size
  block : ∀ i cs t fr, i ≠ b → w.heap[i]? = some (.cells cs t fr) → t ∉ RT → w'.heap[i]? = some (.cells cs t fr)
theorem KeptB.trans {b : Nat} {a w w' : World} (h : KeptB b a w) (k : KeptB b w w') : KeptB b a w' := ⟨Nat.le_trans h.size k.size, fun i cs t fr hi h1 h2 => k.block i cs t fr hi (h.block i cs t fr hi h1 h2) h2⟩
theorem KeptB.refl (b : Nat) (w : World) : KeptB b w w := ⟨Nat.le_refl _, fun _ _ _ _ _ h _ => h⟩
theorem KeptB.of_kept {b : Nat} {w w' : World} (h : Kept RT w w') : KeptB b w w' := ⟨h.size, fun i cs t fr _ h1 h2 => h.block i cs t fr h1 h2⟩
theorem KeptB.of_below {b : Nat} {w w' : World} (h : Below w.heap.size w w') : KeptB b w w' := KeptB.of_kept (Kept.of_below h)
theorem KeptB.set {b : Nat} {a w : World} (h : KeptB b a w) (o : Nat) (v : Value) : KeptB b a (w.setCell ⟨b, o, none⟩ v) :=
  h.trans ⟨by simp, fun i cs t fr hi h1 _ => by rw [heap_setCell_other w ⟨b, o, none⟩ i v hi]; exact h1⟩
theorem IsR.set {w : World} {base br b : Nat} {st : Option (List UInt8)} {cs : Array Value} {e : TypeId} {fr : Nat × Nat} (h : IsR w base br st) (hb : w.heap[b]? = some (.cells cs e fr)) (he : e ∉ RU) (o : Nat) (v : Value) : IsR (w.setCell ⟨b, o, none⟩ v) base br st := by
  obtain ⟨hbase, g, cap, a, bad, L, h1, h2, h3⟩ := h
  have e1 : e ≠ 156 := fun k => he (by rw [k]; simp [RU])
  have e2 : e ≠ 5 := fun k => he (by rw [k]; simp [RU])
  have hne : br ≠ b := fun k => by
    subst k
    rw [h1] at hb
    injection hb with hb
    injection hb with k1 k2 k3
    exact e1 k2.symm
  exact ⟨hbase, g, cap, a, bad, L, (heap_setCell_other w ⟨b, o, none⟩ br v hne).trans h1, own_set h2 hb (Ne.symm e2) o v, h3⟩
/-- what a part that was taken leaves: the reader, and the place's row -/
structure GS (w w' : World) (base br : Nat) (st' : Option (List UInt8)) (b : Nat) (e : TypeId) (cs' : Array Value) : Prop where
  i : IsR w' base br st'
  r : w'.heap[b]? = some (.cells cs' e (0, 0))
  k : KeptB b w w'
  b : Below base w w'
theorem GS.pre {w w1 w' : World} {base br : Nat} {st' : Option (List UInt8)} {b : Nat} {e : TypeId} {cs' : Array Value} (hb : Below w.heap.size w w1) (hl : base ≤ w.heap.size) (h : GS w1 w' base br st' b e cs') : GS w w' base br st' b e cs' :=
  ⟨h.i, h.r, (KeptB.of_below hb).trans h.k, (hb.mono hl).trans h.b⟩
theorem GS.of_step {w w1 : World} {base br : Nat} {st' : Option (List UInt8)} {b : Nat} {e : TypeId} {cs : Array Value} (h : RStep w w1 base br st') (hr : w.heap[b]? = some (.cells cs e (0, 0))) (he : e ∉ RU) (hb : base ≤ b) (o : Nat) (v : Value) : GS w (w1.setCell ⟨b, o, none⟩ v) base br st' b e (cs.setIfInBounds o v) := by
  have h1 := h.2.2.row hr (ru_rt he)
  exact ⟨h.1.set h1 he o v, heap_setCell_same _ _ _ _ _ _ h1, (KeptB.of_kept h.2.2).set o v, h.2.1.setCell hb v⟩
theorem GS.trans {w w1 w2 : World} {base br : Nat} {s1 s2 : Option (List UInt8)} {b : Nat} {e : TypeId} {c1 c2 : Array Value} (h : GS w w1 base br s1 b e c1) (k : GS w1 w2 base br s2 b e c2) : GS w w2 base br s2 b e c2 :=
  ⟨k.i, k.r, h.k.trans k.k, h.b.trans k.b⟩
theorem GS.of_box {w w1 w2 : World} {base br m : Nat} {st' : Option (List UInt8)} {b : Nat} {e em : TypeId} {cs cm : Array Value} (hB : Below w.heap.size w w1) (hg : GS w1 w2 base br st' m em cm) (hm : w.heap.size ≤ m) (hr : w.heap[b]? = some (.cells cs e (0, 0))) (he : e ∉ RU) (hb : base ≤ b) (hl : base ≤ w.heap.size) (o : Nat) (v : Value) : GS w (w2.setCell ⟨b, o, none⟩ v) base br st' b e (cs.setIfInBounds o v) := by
  have hbl := block_lt hr
  have h1 := hg.k.block b cs e (0, 0) (by omega) ((hB.block b hbl).trans hr) (ru_rt he)
  have hk : KeptB b w w2 := ⟨Nat.le_trans hB.size hg.k.size, fun i c t fr hi h2 h3 => hg.k.block i c t fr (by have := block_lt h2; omega) ((hB.block i (block_lt h2)).trans h2) h3⟩
  exact ⟨hg.i.set h1 he o v, heap_setCell_same _ _ _ _ _ _ h1, hk.set o v, ((hB.mono hl).trans hg.b).setCell hb v⟩
end Go.Proofs.YtellhmbebimenaaDoor
end
