/- Contracts of package wire's Reader: Number of any size, Int, Flag, Blob, Text, Count. What a part that was taken off a reader leaves: the reader, and the place where it was put. -/
import Derived.Test.YtbmphlpmipkpcaaGreatRsm38
import Derived.Test.YtbmphlpmipkpcaaGreatRsm8

section
set_option linter.unusedVariables false
set_option linter.unusedSimpArgs false
namespace Go.Proofs.YtbmphlpmipkpcaaGreat
open Go.RowKit

theorem own_mono {w : World} {base base' : Nat} {e : TypeId} {n : Nat} {v : Value} {xs : List Value} (h : w.ownsRow base e 1 v n xs) (hb : base' ≤ base) : w.ownsRow base' e 1 v n xs := by
  obtain ⟨hl, hor⟩ := h
  refine ⟨hl, ?_⟩
  rcases hor with h | ⟨g', cap', cur, e, hg, h4⟩
  · exact .inl h
  · exact .inr ⟨g', cap', cur, e, Nat.le_trans hb hg, h4⟩
theorem rnumber_any (base br : Nat) (st : Option (List UInt8)) (size : Int) (w : World) (h : IsR w base br st) :
    Calls Tryz.prog 50 #[.pointer (some ⟨br, 0, none⟩), .int .i64 size] w fun e w' => e = .returned (.int .u64 (rNumV st size : Int)) ∧ RStep w w' base br (rNumS st size) := by
  by_cases hs : rSize size = true
  · have h2 : ∃ k : Nat, (k = 1 ∨ k = 2 ∨ k = 4 ∨ k = 8) ∧ size = (k : Int) := by
      unfold rSize at hs
      simp only [Bool.or_eq_true, beq_iff_eq] at hs
      exact ⟨size.toNat, by omega, by omega⟩
    obtain ⟨k, hk, rfl⟩ := h2
    refine (rnumber_fit base br st k hk w h).mono ?_
    rintro e w' ⟨rfl, hr⟩
    unfold rNumV rNumS
    rw [if_pos hs, if_pos hs]
    exact ⟨rfl, hr⟩
  · refine (rnumber_bad base br st size (by simpa using hs) w h).mono ?_
    rintro e w' ⟨rfl, hr⟩
    unfold rNumV rNumS
    rw [if_neg hs, if_neg hs]
    exact ⟨rfl, hr⟩
theorem rNumV_lt (st : Option (List UInt8)) (k : Nat) : rNumV st (k : Int) < 256 ^ k := by
  unfold rNumV
  split
  · have h1 := beVal_lt _ (rBy st (k : Int)) rfl
    exact Nat.lt_of_lt_of_le h1 (Nat.pow_le_pow_right (by decide) (rBy_le st k))
  · exact Nat.pow_pos (by decide)

set_option maxRecDepth 4000 in
set_option maxHeartbeats 1000000 in
theorem rcount_any (base br : Nat) (st : Option (List UInt8)) (w : World) (h : IsR w base br st) :
    Calls Tryz.prog 51 #[.pointer (some ⟨br, 0, none⟩)] w fun e w' => e = .returned (.int .i64 (rNumV st 2 : Int)) ∧ RStep w w' base br (rNumS st 2) := by
  have HNU := Lib.hid (rnumber_any base br st 2 w h)
  have hlt := rNumV_lt st 2
  change rNumV st 2 < 65536 at hlt
  generalize rNumV st 2 = V at *
  go_enter Tryz.func51, Tryz.ntmps51
  go_wp2_with fail
  refine HNU.out.mono ?_
  rintro e w1 ⟨rfl, hr⟩
  have HR := Lib.hid hr; clear hr
  go_wp2
  go_ret
  exact ⟨rfl, HR.out⟩

set_option maxRecDepth 4000 in
set_option maxHeartbeats 1000000 in
theorem rflag_any (base br : Nat) (st : Option (List UInt8)) (w : World) (h : IsR w base br st) :
    Calls Tryz.prog 115 #[.pointer (some ⟨br, 0, none⟩)] w fun e w' => e = .returned (.bool (rNumV st 1 == 1)) ∧ RStep w w' base br (if rNumV st 1 > 1 then none else rNumS st 1) := by
  have HNU := Lib.hid (rnumber_any base br st 1 w h)
  have hlt := rNumV_lt st 1
  change rNumV st 1 < 256 at hlt
  generalize rNumV st 1 = V at *
  rcases (by omega : V = 0 ∨ V = 1 ∨ 1 < V) with rfl | rfl | hV
  · go_enter Tryz.func115, Tryz.ntmps115
    go_wp2_with fail
    refine HNU.out.mono ?_
    rintro e w1 ⟨rfl, hr⟩
    have HR := Lib.hid hr; clear hr
    go_wp2
    go_ret
    exact ⟨rfl, HR.out⟩
  · go_enter Tryz.func115, Tryz.ntmps115
    go_wp2_with fail
    refine HNU.out.mono ?_
    rintro e w1 ⟨rfl, hr⟩
    have HR := Lib.hid hr; clear hr
    go_wp2
    go_ret
    exact ⟨rfl, HR.out⟩
  · rw [if_pos hV, show (V == 1) = ((V : Int) == 1) from by rw [Bool.eq_iff_iff]; simp; omega]
    go_enter Tryz.func115, Tryz.ntmps115
    go_wp2_with fail
    refine HNU.out.mono ?_
    rintro e w1 ⟨rfl, hr⟩
    have HF := Lib.hid (rfail_any base br _ w1 hr.1)
    have HR := Lib.hid hr; clear hr
    go_wp2_with fail
    refine HF.out.mono ?_
    rintro e w2 ⟨rfl, hr⟩
    have HR2 := Lib.hid (HR.out.trans hr); clear hr
    go_wp2
    go_ret
    exact ⟨rfl, HR2.out⟩

set_option maxRecDepth 4000 in
set_option maxHeartbeats 1000000 in
theorem rtake_any (base br : Nat) (st : Option (List UInt8)) (size : Int) (w : World) (h : IsR w base br st) :
    Calls Tryz.prog 107 #[.func (.func 50) #[.pointer (some ⟨br, 0, none⟩)] #[], .int .i64 size] w fun e w' => e = .returned (.int .u64 (rNumV st size : Int)) ∧ RStep w w' base br (rNumS st size) := by
  have HNU := Lib.hid (rnumber_any base br st size w h)
  generalize rNumV st size = V at *
  go_enter Tryz.func107, Tryz.ntmps107
  go_wp2_with fail
  refine HNU.out.mono ?_
  rintro e w1 ⟨rfl, hr⟩
  have HR := Lib.hid hr; clear hr
  go_wp2
  go_ret
  exact ⟨rfl, HR.out⟩

set_option maxRecDepth 4000 in
set_option maxHeartbeats 1000000 in
theorem rint_any (base br : Nat) (st : Option (List UInt8)) (w : World) (h : IsR w base br st) :
    Calls Tryz.prog 108 #[.pointer (some ⟨br, 0, none⟩)] w fun e w' => e = .returned (.int .i64 (wrap64 (rNumV st 8 : Int))) ∧ RStep w w' base br (rNumS st 8) := by
  have HNU := Lib.hid (rtake_any base br st 8 w h)
  have hlt := rNumV_lt st 8
  change rNumV st 8 < 18446744073709551616 at hlt
  generalize rNumV st 8 = V at *
  go_enter Tryz.func108, Tryz.ntmps108
  go_wp2_with fail
  refine HNU.out.mono ?_
  rintro e w1 ⟨rfl, hr⟩
  have HR := Lib.hid hr; clear hr
  go_wp2
  go_ret
  exact ⟨rfl, HR.out⟩

/-- what Blob tells, and leaves -/
def rBlobV (st : Option (List UInt8)) : List UInt8 := if rNumV st 4 > 16777216 then [] else rBy (rNumS st 4) (rNumV st 4 : Nat)
def rBlobS (st : Option (List UInt8)) : Option (List UInt8) := if rNumV st 4 > 16777216 then none else rRest (rNumS st 4) (rNumV st 4 : Nat)

set_option maxRecDepth 4000 in
set_option maxHeartbeats 1000000 in
theorem rblob_any (base br : Nat) (st : Option (List UInt8)) (w : World) (h : IsR w base br st) :
    Calls Tryz.prog 53 #[.pointer (some ⟨br, 0, none⟩)] w fun e w' => ∃ v, e = .returned v ∧ w'.ownsRow w.heap.size 5 1 v (rBlobV st).length (bytesV (rBlobV st)) ∧ RStep w w' base br (rBlobS st) := by
  have HNU := Lib.hid (rtake_any base br st 4 w h)
  have hlt := rNumV_lt st 4
  change rNumV st 4 < 4294967296 at hlt
  by_cases hbig : rNumV st 4 > 16777216
  · have hV : rBlobV st = [] ∧ rBlobS st = none := ⟨if_pos hbig, if_pos hbig⟩
    rw [hV.1, hV.2]
    generalize rNumV st 4 = V at *
    clear hV
    go_enter Tryz.func53, Tryz.ntmps53
    go_wp2_with fail
    refine HNU.out.mono ?_
    rintro e w1 ⟨rfl, hr⟩
    have HF := Lib.hid (rfail_any base br _ w1 hr.1)
    have HR := Lib.hid hr; clear hr
    go_wp2_with fail
    refine HF.out.mono ?_
    rintro e w2 ⟨rfl, hr⟩
    have HR2 := Lib.hid (HR.out.trans hr); clear hr
    go_wp2
    go_ret
    exact ⟨_, rfl, World.ownsRow_nil _ _ _ _, HR2.out⟩
  · have HV : Hid (rBlobV st = rBy (rNumS st 4) (rNumV st 4 : Nat) ∧ rBlobS st = rRest (rNumS st 4) (rNumV st 4 : Nat)) := Lib.hid ⟨if_neg hbig, if_neg hbig⟩
    have hbs : w.heap.size = w.heap.size := rfl
    have HBS := Lib.hid h.lt
    generalize rNumV st 4 = V at *
    go_enter Tryz.func53, Tryz.ntmps53
    go_wp2_with fail
    refine HNU.out.mono ?_
    rintro e w1 ⟨rfl, hr⟩
    have HBY := Lib.hid (rbytes_any base br _ (V : Int) (by omega) w1 hr.1)
    have HR := Lib.hid hr; clear hr
    rw [← HV.out.1, ← HV.out.2] at HBY
    go_wp2_with fail
    refine HBY.out.mono ?_
    rintro e w2 ⟨v, rfl, hown, hr⟩
    have HOW := Lib.hid (own_mono hown HR.out.2.1.size)
    have HR2 := Lib.hid (HR.out.trans hr)
    clear hr hown
    obtain ⟨q, c, rfl⟩ := own_form HOW.out
    go_wp2
    go_ret
    exact ⟨_, rfl, HOW.out, HR2.out⟩

end Go.Proofs.YtbmphlpmipkpcaaGreat
end

section
set_option linter.unusedVariables false
set_option linter.unusedSimpArgs false
namespace Go.Proofs.YtbmphlpmipkpcaaGreat
open Go.RowKit

/-- types that a reader is made of -/
def RU : List TypeId := [164, 5]
theorem ru_rt {t : TypeId} (h : t ∉ RU) : t ∉ RT := fun k => h (by unfold RT at k; unfold RU; rw [List.mem_singleton.1 k]; simp)
/-- all blocks but one, of other types than a reader's, stay -/
structure KeptB (b : Nat) (w w' : World) : Prop where
  size : w.heap.size ≤ w'.heap.size
  block : ∀ i cs t fr, i ≠ b → w.heap[i]? = some (.cells cs t fr) → t ∉ RT → w'.heap[i]? = some (.cells cs t fr)
theorem KeptB.trans {b : Nat} {a w w' : World} (h : KeptB b a w) (k : KeptB b w w') : KeptB b a w' := ⟨Nat.le_trans h.size k.size, fun i cs t fr hi h1 h2 => k.block i cs t fr hi (h.block i cs t fr hi h1 h2) h2⟩
theorem KeptB.refl (b : Nat) (w : World) : KeptB b w w := ⟨Nat.le_refl _, fun _ _ _ _ _ h _ => h⟩
theorem KeptB.of_kept {b : Nat} {w w' : World} (h : Kept RT w w') : KeptB b w w' := ⟨h.size, fun i cs t fr _ h1 h2 => h.block i cs t fr h1 h2⟩
theorem KeptB.of_below {b : Nat} {w w' : World} (h : Below w.heap.size w w') : KeptB b w w' := KeptB.of_kept (Kept.of_below h)
theorem KeptB.set {b : Nat} {a w : World} (h : KeptB b a w) (o : Nat) (v : Value) : KeptB b a (w.setCell ⟨b, o, none⟩ v) :=
  h.trans ⟨by simp, fun i cs t fr hi h1 _ => by rw [heap_setCell_other w ⟨b, o, none⟩ i v hi]; exact h1⟩
theorem IsR.set {w : World} {base br b : Nat} {st : Option (List UInt8)} {cs : Array Value} {e : TypeId} {fr : Nat × Nat} (h : IsR w base br st) (hb : w.heap[b]? = some (.cells cs e fr)) (he : e ∉ RU) (o : Nat) (v : Value) : IsR (w.setCell ⟨b, o, none⟩ v) base br st := by
  obtain ⟨hbase, g, cap, a, bad, L, h1, h2, h3⟩ := h
  have e1 : e ≠ 164 := fun k => he (by rw [k]; simp [RU])
  have e2 : e ≠ 5 := fun k => he (by rw [k]; simp [RU])
  have hne : br ≠ b := fun k => by
    subst k
    rw [h1] at hb
    injection hb with hb
    injection hb with k1 k2 k3
    exact e1 k2.symm
  exact ⟨hbase, g, cap, a, bad, L, (heap_setCell_other w ⟨b, o, none⟩ br v hne).trans h1, own_set h2 hb (Ne.symm e2) o v, h3⟩
/-- what a part that was taken leaves: the reader, and the place's row -/
structure GS (w w' : World) (base br : Nat) (st' : Option (List UInt8)) (b : Nat) (e : TypeId) (cs' : Array Value) : Prop where
  i : IsR w' base br st'
  r : w'.heap[b]? = some (.cells cs' e (0, 0))
  k : KeptB b w w'
  b : Below base w w'
theorem GS.pre {w w1 w' : World} {base br : Nat} {st' : Option (List UInt8)} {b : Nat} {e : TypeId} {cs' : Array Value} (hb : Below w.heap.size w w1) (hl : base ≤ w.heap.size) (h : GS w1 w' base br st' b e cs') : GS w w' base br st' b e cs' :=
  ⟨h.i, h.r, (KeptB.of_below hb).trans h.k, (hb.mono hl).trans h.b⟩
theorem GS.of_step {w w1 : World} {base br : Nat} {st' : Option (List UInt8)} {b : Nat} {e : TypeId} {cs : Array Value} (h : RStep w w1 base br st') (hr : w.heap[b]? = some (.cells cs e (0, 0))) (he : e ∉ RU) (hb : base ≤ b) (o : Nat) (v : Value) : GS w (w1.setCell ⟨b, o, none⟩ v) base br st' b e (cs.setIfInBounds o v) := by
  have h1 := h.2.2.row hr (ru_rt he)
  exact ⟨h.1.set h1 he o v, heap_setCell_same _ _ _ _ _ _ h1, (KeptB.of_kept h.2.2).set o v, h.2.1.setCell hb v⟩
theorem GS.trans {w w1 w2 : World} {base br : Nat} {s1 s2 : Option (List UInt8)} {b : Nat} {e : TypeId} {c1 c2 : Array Value} (h : GS w w1 base br s1 b e c1) (k : GS w1 w2 base br s2 b e c2) : GS w w2 base br s2 b e c2 :=
  ⟨k.i, k.r, h.k.trans k.k, h.b.trans k.b⟩
theorem GS.of_box {w w1 w2 : World} {base br m : Nat} {st' : Option (List UInt8)} {b : Nat} {e em : TypeId} {cs cm : Array Value} (hB : Below w.heap.size w w1) (hg : GS w1 w2 base br st' m em cm) (hm : w.heap.size ≤ m) (hr : w.heap[b]? = some (.cells cs e (0, 0))) (he : e ∉ RU) (hb : base ≤ b) (hl : base ≤ w.heap.size) (o : Nat) (v : Value) : GS w (w2.setCell ⟨b, o, none⟩ v) base br st' b e (cs.setIfInBounds o v) := by
  have hbl := block_lt hr
  have h1 := hg.k.block b cs e (0, 0) (by omega) ((hB.block b hbl).trans hr) (ru_rt he)
  have hk : KeptB b w w2 := ⟨Nat.le_trans hB.size hg.k.size, fun i c t fr hi h2 h3 => hg.k.block i c t fr (by have := block_lt h2; omega) ((hB.block i (block_lt h2)).trans h2) h3⟩
  exact ⟨hg.i.set h1 he o v, heap_setCell_same _ _ _ _ _ _ h1, hk.set o v, ((hB.mono hl).trans hg.b).setCell hb v⟩
end Go.Proofs.YtbmphlpmipkpcaaGreat
end
