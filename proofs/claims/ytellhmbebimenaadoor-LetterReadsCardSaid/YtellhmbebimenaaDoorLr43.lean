/- Plain words: a letter's bytes tell it. Plain words: bytes that are a letter's are those of the letter that they tell. Contracts of the posting reference: at, put, Key, Bytes. Contracts of the posting reference: Key, Bytes, Of; and of posting.Of. -/
import Derived.Test.YtellhmbebimenaaDoorLr24
import Derived.Test.YtellhmbebimenaaDoorLr37
import Derived.Test.YtellhmbebimenaaDoorLr29
import Derived.Test.YtellhmbebimenaaDoorLr34
import Derived.Test.YtellhmbebimenaaDoorLr35
import Derived.Deep.RegionHeld3

section
set_option linter.unusedVariables false
namespace Go.Proofs.YtellhmbebimenaaDoor
open Go.RowKit

theorem beV_be (x k : Nat) (h : x < 256 ^ k) : beVal (Wire.be x k) = x := by
  have e : ∀ l : List UInt8, beVal l = Wire.ofBe l := fun l => by
    unfold beVal Wire.ofBe
    have : (fun (n : Nat) (b : UInt8) => n * 256 + b.toNat) = Wire.bstep := by funext a c; unfold Wire.bstep; omega
    rw [this]
  rw [e, Wire.ofBe_be, Nat.mod_eq_of_lt h]
theorem numS_app (p t : List UInt8) (k : Nat) (hk : k = 1 ∨ k = 2 ∨ k = 4 ∨ k = 8) (hp : p.length = k) : rNumS (some (p ++ t)) (k : Int) = some t ∧ rNumV (some (p ++ t)) (k : Int) = beVal p := by
  have hs : rSize (k : Int) = true := by rcases hk with rfl | rfl | rfl | rfl <;> rfl
  have hc : (0 : Int) ≤ (k : Int) ∧ (k : Int) ≤ ((p ++ t).length : Nat) := by simp; omega
  unfold rNumS rNumV
  rw [if_pos hs, if_pos hs]
  refine ⟨?_, ?_⟩
  · unfold rRest; simp only; rw [if_pos hc, Int.toNat_natCast, ← hp, List.drop_left]
  · unfold rBy rTake; simp only; rw [if_pos hc, Int.toNat_natCast, ← hp, List.take_left]; rfl
theorem nS1 (x : Nat) (t : List UInt8) : rNumS (some (Wire.be x 1 ++ t)) 1 = some t := (numS_app _ t 1 (by decide) (Wire.be_length x 1)).1
theorem nS2 (x : Nat) (t : List UInt8) : rNumS (some (Wire.be x 2 ++ t)) 2 = some t := (numS_app _ t 2 (by decide) (Wire.be_length x 2)).1
theorem nS4 (x : Nat) (t : List UInt8) : rNumS (some (Wire.be x 4 ++ t)) 4 = some t := (numS_app _ t 4 (by decide) (Wire.be_length x 4)).1
theorem nS8 (x : Nat) (t : List UInt8) : rNumS (some (Wire.be x 8 ++ t)) 8 = some t := (numS_app _ t 8 (by decide) (Wire.be_length x 8)).1
theorem nV1 (x : Nat) (t : List UInt8) (h : x < 256) : rNumV (some (Wire.be x 1 ++ t)) 1 = x := (numS_app _ t 1 (by decide) (Wire.be_length x 1)).2.trans (beV_be x 1 h)
theorem nV2 (x : Nat) (t : List UInt8) (h : x < 65536) : rNumV (some (Wire.be x 2 ++ t)) 2 = x := (numS_app _ t 2 (by decide) (Wire.be_length x 2)).2.trans (beV_be x 2 h)
theorem nV4 (x : Nat) (t : List UInt8) (h : x < 4294967296) : rNumV (some (Wire.be x 4 ++ t)) 4 = x := (numS_app _ t 4 (by decide) (Wire.be_length x 4)).2.trans (beV_be x 4 h)
theorem nV8 (x : Nat) (t : List UInt8) (h : x < 18446744073709551616) : rNumV (some (Wire.be x 8 ++ t)) 8 = x := (numS_app _ t 8 (by decide) (Wire.be_length x 8)).2.trans (beV_be x 8 h)
theorem mGet_enc {m : Ml} (ht : U64 m.tk) (hm : m.may = true) : mGet (encM m) = m ∧ mEnd (encM m) = some [] := by
  obtain ⟨hk, hn, hc, hco, hd, hw, hz2, hz3, hzc⟩ := ml_facts hm
  clear hm hn
  obtain ⟨k, tk, c, d, co, fl, dy, va, st, ho, nx⟩ := m
  simp only at ht hk hc hco hd hw hz2 hz3 hzc
  obtain ⟨t0, t1⟩ := ht
  obtain ⟨K, rfl⟩ := Int.eq_ofNat_of_zero_le (show 0 ≤ k by omega)
  obtain ⟨T, rfl⟩ := Int.eq_ofNat_of_zero_le t0
  obtain ⟨C, rfl⟩ := Int.eq_ofNat_of_zero_le (show 0 ≤ c by omega)
  have hK : K < 256 := by omega
  have hT : T < 18446744073709551616 := by omega
  have hC : C < 256 := by omega
  unfold encM encMh mGet mEnd
  simp only [Int.toNat_natCast, List.append_assoc]
  by_cases h3 : (K : Int) = 3
  · obtain rfl : K = 3 := by omega
    obtain ⟨O, rfl⟩ := Int.eq_ofNat_of_zero_le (show 0 ≤ co by have := hco h3; omega)
    have hO : O < 256 := by have := hco h3; omega
    have e0 := hz3 h3
    obtain ⟨z1, z2, z3, z4, z5, z6⟩ := hz2 (by omega)
    subst e0 z1 z2 z3 z4 z5 z6
    rw [if_pos h3, Int.toNat_natCast, ← List.append_nil (Wire.be O 1)]
    simp only [nV1 _ _ hK, nV8 _ _ hT, nV1 _ _ hC, nV1 _ _ hO, nS1, nS8]
    exact ⟨rfl, rfl⟩
  · rw [if_neg h3]
    have h3' : ¬ K = 3 := by omega
    obtain ⟨D, rfl⟩ := Int.eq_ofNat_of_zero_le (show 0 ≤ d by have := hd h3; omega)
    have hD : D < 4294967296 := by have := hd h3; omega
    have e0 := hzc h3
    subst e0
    by_cases h2 : (K : Int) = 2
    · obtain rfl : K = 2 := by omega
      obtain ⟨w1, w2, w3, w4, w5, w6⟩ := hw h2
      obtain ⟨L, rfl⟩ := Int.eq_ofNat_of_zero_le (show 0 ≤ fl by omega)
      obtain ⟨Y, rfl⟩ := Int.eq_ofNat_of_zero_le (show 0 ≤ dy by omega)
      obtain ⟨V, rfl⟩ := Int.eq_ofNat_of_zero_le (show 0 ≤ va by omega)
      have hL : L < 65536 := by omega
      have hY : Y < 4294967296 := by omega
      have hV : V < 18446744073709551616 := by omega
      subst w4 w5 w6
      rw [if_pos h2]
      simp only [Int.toNat_natCast]
      rw [← List.append_nil (Wire.be V 8)]
      simp only [nV1 _ _ hK, nV8 _ _ hT, nV1 _ _ hC, nV4 _ _ hD, nV2 _ _ hL, nV4 _ _ hY, nV8 _ _ hV, nS1, nS8, nS2, nS4]
      refine ⟨?_, rfl⟩
      have hwr : wrap64 (V : Int) = (V : Int) := by unfold wrap64; omega
      simp [hwr]
    · obtain ⟨z1, z2, z3, z4, z5, z6⟩ := hz2 h2
      subst z1 z2 z3 z4 z5 z6
      have h2' : ¬ K = 2 := by omega
      rw [if_neg h2, Int.toNat_natCast, ← List.append_nil (Wire.be D 4)]
      simp only [nV1 _ _ hK, nV8 _ _ hT, nV1 _ _ hC, nV4 _ _ hD, nS1, nS8, nS4, if_neg h3', if_neg h2']
      exact ⟨trivial, trivial⟩
theorem okM_enc {m : Ml} (ht : U64 m.tk) (hm : m.may = true) : okM (encM m) = true ∧ mOf (encM m) = m := by
  obtain ⟨h1, h2⟩ := mGet_enc ht hm
  have h : okM (encM m) = true := by unfold okM; rw [h1, h2, hm]; rfl
  exact ⟨h, by unfold mOf; rw [if_pos h, h1]⟩
theorem lGet_enc {x : Lt} (hw : x.wf) (hm : x.may = true) : okL20 (encLt x) = true ∧ lGet (encLt x) = x := by
  obtain ⟨hf, ht, hne, hn, ha, hz, hml⟩ := lt_facts hm
  obtain ⟨n0, n1⟩ := hw.n
  obtain ⟨a0, a1⟩ := hw.a
  have htk := hw.tk
  have hmm := hm
  obtain ⟨f, t, n, a, k, tk, c, d, co, fl, dy, va, st, ho, nx⟩ := x
  simp only at hf ht hne hn ha hz hml n0 n1 a0 a1 htk
  obtain ⟨F, rfl⟩ := Int.eq_ofNat_of_zero_le (show 0 ≤ f by omega)
  obtain ⟨T, rfl⟩ := Int.eq_ofNat_of_zero_le (show 0 ≤ t by omega)
  obtain ⟨N, rfl⟩ := Int.eq_ofNat_of_zero_le n0
  obtain ⟨A, rfl⟩ := Int.eq_ofNat_of_zero_le a0
  have hF : F < 65536 := by omega
  have hT : T < 65536 := by omega
  have hN : N < 18446744073709551616 := by omega
  have hA : A < 18446744073709551616 := by omega
  generalize hX : (⟨(F : Int), (T : Int), (N : Int), (A : Int), k, tk, c, d, co, fl, dy, va, st, ho, nx⟩ : Lt) = X at *
  have hml0 : X.ml = ⟨k, tk, c, d, co, fl, dy, va, st, ho, nx⟩ := by rw [← hX]; rfl
  have eh : encLh X = Wire.be F 2 ++ (Wire.be T 2 ++ (Wire.be N 8 ++ Wire.be A 8)) := by
    rw [← hX]; unfold encLh; simp only [Int.toNat_natCast, List.append_assoc]
  have hl20 : (encLh X).length = 20 := by rw [eh]; simp only [List.length_append, Wire.be_length]
  have hX2 : X.n = (N : Int) := by rw [← hX]
  have e : ∃ R, encLt X = encLh X ++ R ∧ (N = 0 → R = []) ∧ (¬ N = 0 → R = encM X.ml) := by
    unfold encLt
    rw [hX2]
    by_cases h0 : N = 0
    · rw [if_pos (by omega)]; exact ⟨[], by simp, fun _ => rfl, fun h => absurd h0 h⟩
    · rw [if_neg (by omega)]; exact ⟨_, rfl, fun h => absurd h h0, fun _ => rfl⟩
  obtain ⟨R, hR, hR0, hR1⟩ := e
  have et : (encLt X).take 20 = Wire.be F 2 ++ (Wire.be T 2 ++ (Wire.be N 8 ++ (Wire.be A 8 ++ []))) := by
    rw [hR, ← hl20, List.take_left, eh, List.append_nil]
  have ed : (encLt X).drop 20 = R := by rw [hR, ← hl20, List.drop_left]
  have s1 : lS1 (encLt X) = some (Wire.be T 2 ++ (Wire.be N 8 ++ (Wire.be A 8 ++ []))) := by unfold lS1; rw [et, nS2]
  have s2 : lS2 (encLt X) = some (Wire.be N 8 ++ (Wire.be A 8 ++ [])) := by unfold lS2; rw [s1, nS2]
  have s3 : lS3 (encLt X) = some (Wire.be A 8 ++ []) := by unfold lS3; rw [s2, nS8]
  have s4 : lS4 (encLt X) = some [] := by unfold lS4; rw [s3, nS8]
  have hN1 : lNum (encLt X) = N := by unfold lNum; rw [s2, nV8 _ _ hN]
  have hMail : lMail (encLt X) = X.ml := by
    unfold lMail
    rw [hN1, ed]
    by_cases h0 : N = 0
    · rw [if_pos h0, hz (by rw [h0]; rfl)]
    · rw [if_neg h0, hR1 h0]
      exact (okM_enc (by rw [hml0]; exact htk) (hml (by omega))).2
  have hG : lGet (encLt X) = X := by
    unfold lGet
    rw [hMail, hN1, s1, s3, et, nV2 _ _ hF, nV2 _ _ hT, nV8 _ _ hA, hml0, ← hX]
  refine ⟨?_, hG⟩
  unfold okL20
  rw [s4, hN1, ed, hG, hmm]
  by_cases h0 : N = 0
  · rw [if_pos h0, hR0 h0]; rfl
  · rw [if_neg h0, hR1 h0, (okM_enc (by rw [hml0]; exact htk) (hml (by omega))).1]; rfl
theorem encLt_inj {x y : Lt} (hx : x.wf) (hy : y.wf) (mx : x.may = true) (my : y.may = true) (h : encLt x = encLt y) : x = y := by
  rw [← (lGet_enc hx mx).2, h, (lGet_enc hy my).2]
end Go.Proofs.YtellhmbebimenaaDoor
end

section
set_option linter.unusedVariables false
namespace Go.Proofs.YtellhmbebimenaaDoor
open Go.RowKit

theorem be_beV (n : Nat) (p : List UInt8) (h : p.length = n) : Wire.be (beVal p) n = p := by
  have e : ∀ l : List UInt8, beVal l = Wire.ofBe l := fun l => by
    unfold beVal Wire.ofBe
    have : (fun (n : Nat) (b : UInt8) => n * 256 + b.toNat) = Wire.bstep := by funext a c; unfold Wire.bstep; omega
    rw [this]
  subst h
  rw [e]
  exact Wire.be_ofBe p
theorem numS_split {st : Option (List UInt8)} {k : Nat} {r : List UInt8} (h : rNumS st (k : Int) = some r) : st = some (Wire.be (rNumV st (k : Int)) k ++ r) ∧ rNumV st (k : Int) < 256 ^ k := by
  have hlt := rNumV_lt st k
  refine ⟨?_, hlt⟩
  unfold rNumS at h
  split at h
  · rename_i hs
    unfold rRest at h
    cases st with
    | none => cases h
    | some l =>
      simp only at h
      split at h
      · rename_i hc
        injection h with h
        rw [Int.toNat_natCast] at h
        have hl : k ≤ l.length := by omega
        have hv : rNumV (some l) (k : Int) = beVal (l.take k) := by
          unfold rNumV rBy rTake
          rw [if_pos hs]
          simp only
          rw [if_pos hc, Int.toNat_natCast]
          rfl
        rw [hv, be_beV k (l.take k) (by rw [List.length_take]; omega), ← h, List.take_append_drop]
      · cases h
  · cases h
theorem ns1 {st : Option (List UInt8)} {r : List UInt8} (h : rNumS st 1 = some r) : st = some (Wire.be (rNumV st 1) 1 ++ r) ∧ rNumV st 1 < 256 := numS_split (k := 1) h
theorem ns2 {st : Option (List UInt8)} {r : List UInt8} (h : rNumS st 2 = some r) : st = some (Wire.be (rNumV st 2) 2 ++ r) ∧ rNumV st 2 < 65536 := numS_split (k := 2) h
theorem ns4 {st : Option (List UInt8)} {r : List UInt8} (h : rNumS st 4 = some r) : st = some (Wire.be (rNumV st 4) 4 ++ r) ∧ rNumV st 4 < 4294967296 := numS_split (k := 4) h
theorem ns8 {st : Option (List UInt8)} {r : List UInt8} (h : rNumS st 8 = some r) : st = some (Wire.be (rNumV st 8) 8 ++ r) ∧ rNumV st 8 < 18446744073709551616 := numS_split (k := 8) h
theorem encM_of {b : List UInt8} (h : okM b = true) : encM (mGet b) = b := by
  unfold okM at h
  rw [Bool.and_eq_true, decide_eq_true_eq] at h
  obtain ⟨he, hm⟩ := h
  have F := ml_facts hm
  unfold mEnd at he
  unfold mGet at *
  by_cases h3 : rNumV (some b) 1 = 3
  · simp only [if_pos h3] at *
    obtain ⟨e4, -⟩ := ns1 he
    obtain ⟨e3, -⟩ := ns1 e4
    obtain ⟨e2, -⟩ := ns8 e3
    obtain ⟨e1, -⟩ := ns1 e2
    have e1 := Option.some.inj e1
    generalize rNumV (rNumS (rNumS (rNumS (some b) 1) 8) 1) 1 = V4 at *
    generalize rNumV (rNumS (rNumS (some b) 1) 8) 1 = V3 at *
    generalize rNumV (rNumS (some b) 1) 8 = V2 at *
    rw [h3] at e1
    unfold encM encMh
    simp only [if_true, Int.toNat_natCast]
    rw [show (3 : Int).toNat = 3 from rfl]
    refine Eq.trans ?_ e1.symm
    simp only [List.append_assoc, List.append_nil]
  · simp only [if_neg h3] at *
    by_cases h2 : rNumV (some b) 1 = 2
    · simp only [if_pos h2] at *
      obtain ⟨e7, l7⟩ := ns8 he
      obtain ⟨e6, -⟩ := ns4 e7
      obtain ⟨e5, -⟩ := ns2 e6
      obtain ⟨e4, -⟩ := ns4 e5
      obtain ⟨e3, -⟩ := ns1 e4
      obtain ⟨e2, -⟩ := ns8 e3
      obtain ⟨e1, -⟩ := ns1 e2
      have e1 := Option.some.inj e1
      obtain ⟨-, -, ⟨w0, w1⟩, -⟩ := F.w rfl
      simp only at w0 w1
      generalize rNumV (rNumS (rNumS (rNumS (rNumS (rNumS (rNumS (some b) 1) 8) 1) 4) 2) 4) 8 = V7 at *
      generalize rNumV (rNumS (rNumS (rNumS (rNumS (rNumS (some b) 1) 8) 1) 4) 2) 4 = V6 at *
      generalize rNumV (rNumS (rNumS (rNumS (rNumS (some b) 1) 8) 1) 4) 2 = V5 at *
      generalize rNumV (rNumS (rNumS (rNumS (some b) 1) 8) 1) 4 = V4 at *
      generalize rNumV (rNumS (rNumS (some b) 1) 8) 1 = V3 at *
      generalize rNumV (rNumS (some b) 1) 8 = V2 at *
      have e9 : (wrap64 (V7 : Int)).toNat = V7 := by unfold wrap64 at *; omega
      rw [h2] at e1
      unfold encM encMh
      simp only [e9, Int.toNat_natCast, if_true, show ¬ (2 : Int) = 3 from by decide, if_false]
      rw [show (2 : Int).toNat = 2 from rfl]
      refine Eq.trans ?_ e1.symm
      simp only [List.append_assoc, List.append_nil]
    · simp only [if_neg h2] at *
      obtain ⟨e4, -⟩ := ns4 he
      obtain ⟨e3, -⟩ := ns1 e4
      obtain ⟨e2, -⟩ := ns8 e3
      obtain ⟨e1, -⟩ := ns1 e2
      have e1 := Option.some.inj e1
      generalize rNumV (rNumS (rNumS (rNumS (some b) 1) 8) 1) 4 = V4 at *
      generalize rNumV (rNumS (rNumS (some b) 1) 8) 1 = V3 at *
      generalize rNumV (rNumS (some b) 1) 8 = V2 at *
      generalize rNumV (some b) 1 = V1 at *
      unfold encM encMh
      simp only [Int.toNat_natCast, if_neg (show ¬ (V1 : Int) = 3 by omega), if_neg (show ¬ (V1 : Int) = 2 by omega)]
      refine Eq.trans ?_ e1.symm
      simp only [List.append_assoc, List.append_nil]
theorem encLt_of {b : List UInt8} (h : okL20 b = true) : encLt (lGet b) = b ∧ (lGet b).may = true := by
  unfold okL20 at h
  rw [Bool.and_eq_true, Bool.and_eq_true, decide_eq_true_eq] at h
  obtain ⟨⟨h4, hr⟩, hm⟩ := h
  refine ⟨?_, hm⟩
  obtain ⟨e3, -⟩ := ns8 (show rNumS (lS3 b) 8 = some [] from h4)
  obtain ⟨e2, -⟩ := ns8 (show rNumS (lS2 b) 8 = some _ from e3)
  obtain ⟨e1, -⟩ := ns2 (show rNumS (lS1 b) 2 = some _ from e2)
  obtain ⟨e0, -⟩ := ns2 (show rNumS (some (b.take 20)) 2 = some _ from e1)
  have e0 := Option.some.inj e0
  have eN : rNumV (lS2 b) 8 = lNum b := rfl
  rw [eN] at e0
  have eh : encLh (lGet b) = b.take 20 := by
    refine Eq.trans ?_ e0.symm
    unfold encLh lGet
    simp only [Int.toNat_natCast, List.append_assoc, List.append_nil]
  have en : (lGet b).n = (lNum b : Int) := rfl
  unfold encLt
  rw [en, eh]
  by_cases h0 : lNum b = 0
  · rw [if_pos h0, decide_eq_true_eq] at hr
    rw [if_pos (by omega)]
    have := List.take_append_drop 20 b
    rw [hr, List.append_nil] at this
    exact this
  · rw [if_neg h0] at hr
    rw [if_neg (by omega)]
    have em : (lGet b).ml = mGet (b.drop 20) := by
      have : lMail b = mGet (b.drop 20) := by unfold lMail mOf; rw [if_neg h0, if_pos hr]
      rw [← this]; rfl
    rw [em, encM_of hr]
    exact List.take_append_drop 20 b
theorem lGet_wf (b : List UInt8) : (lGet b).wf := by
  have q1 : rNumV (some (b.take 20)) 2 < 256 ^ 2 := rNumV_lt _ 2
  have q2 : rNumV (lS1 b) 2 < 256 ^ 2 := rNumV_lt _ 2
  have q3 : rNumV (lS2 b) 8 < 256 ^ 8 := rNumV_lt _ 8
  have q4 : rNumV (lS3 b) 8 < 256 ^ 8 := rNumV_lt _ 8
  have q5 : U64 (lMail b).tk ∧ I64 (lMail b).va := by
    unfold lMail
    split
    · exact ⟨⟨by decide, by decide⟩, ⟨by decide, by decide⟩⟩
    · exact mOf_wf _
  refine ⟨⟨?_, ?_⟩, ⟨?_, ?_⟩, ⟨?_, ?_⟩, ⟨?_, ?_⟩, q5.1, q5.2⟩
  all_goals
    unfold lGet lNum
    simp only
    omega
end Go.Proofs.YtellhmbebimenaaDoor
end

section
set_option linter.unusedVariables false
set_option linter.unusedSimpArgs false
namespace Go.Proofs.YtellhmbebimenaaDoor
open Go.RowKit

set_option maxRecDepth 4000 in
set_option maxHeartbeats 1000000 in
theorem put14_any (base : Nat) (v : Value) (L : List UInt8) (N : Nat) (hN : N < 18446744073709551616) (s : Nat) (hs : s = 1 ∨ s = 2 ∨ s = 4 ∨ s = 8) (hfit : N < 256 ^ s) (hL : L.length ≤ 1000) (w : World) (hb : base ≤ w.heap.size) (ho : w.ownsRow base 5 1 v L.length (bytesV L)) :
    Calls Tryd.prog 78 #[v, .int .u64 (N : Int), .int .i64 (s : Int)] w fun e w' => ∃ u, e = .returned u ∧ w'.ownsRow base 5 1 u (L ++ Wire.be N s).length (bytesV (L ++ Wire.be N s)) ∧ w.grownBy w' v.ownBlock := by
  have HNU := Lib.hid (rNumber_any N hN (s : Int) w)
  have hp : pNum N (s : Int) = some (Wire.be N s) := by
    unfold pNum
    rw [if_pos ⟨by rcases hs with rfl | rfl | rfl | rfl <;> rfl, by rw [Int.toNat_natCast]; exact hfit⟩, Int.toNat_natCast]
  rw [hp] at HNU
  have HLB := Lib.hid (Wire.be_length N s)
  have HO := Lib.hid ho
  have HLL := Lib.hid hL
  obtain ⟨q, c, rfl⟩ := own_form ho
  clear hp hfit ho hL
  rw [show pGet (some (Wire.be N s)) = Wire.be N s from rfl, show (some (Wire.be N s)).isSome = true from rfl] at HNU
  generalize Wire.be N s = B at *
  generalize hLn : L.length = nl at *
  have HLN := Lib.hid hLn
  clear hLn
  go_enter Tryd.func78, Tryd.ntmps78
  go_wp2_with fail
  refine HNU.out.mono ?_
  rintro e w1 ⟨u, rfl, hown, hb1⟩
  have HOB := Lib.hid (BS.of_own hown)
  have HB := Lib.hid hb1
  have HO1 := Lib.hid (own_below HO.out hb1)
  obtain ⟨q1, c1, rfl⟩ := own_form hown
  clear hown hb1
  go_wp2_with (at_builtin; refine wpList_append_bytes rfl _ _ rfl base _ _ _ rfl HO1.out _ B rfl HOB.out ?c1 ?c2 ?_)
  case c1 => have := HLB.out; have := HLL.out; omega
  case c2 => have := HB.out.size; omega
  intro v2 w2 hown2 hg2 hn2 hat2
  have HG : Hid (w.grownBy w2 (Value.slice q nl c).ownBlock) := Lib.hid ⟨hg2.os.trans HB.out.os, hg2.tape.trans HB.out.tape, hg2.output.trans HB.out.output, Nat.le_trans HB.out.size hg2.size, fun k hk hne => (hg2.block k (Nat.lt_of_lt_of_le hk HB.out.size) hne).trans (HB.out.block k hk)⟩
  have HO2 : Hid (w2.ownsRow base 5 1 v2 (L ++ B).length (bytesV (L ++ B))) := Lib.hid (by rw [List.length_append, bytesV_append, HLN.out]; exact hown2)
  obtain ⟨q2, c2, rfl⟩ := own_form hown2
  clear hown2 hg2 hn2 hat2
  go_wp2
  go_ret
  exact ⟨_, rfl, by rw [List.length_append, HLN.out]; have := HO2.out; rwa [List.length_append, HLN.out] at this, HG.out⟩
end Go.Proofs.YtellhmbebimenaaDoor
end

section
set_option linter.unusedVariables false
set_option linter.unusedSimpArgs false
namespace Go.Proofs.YtellhmbebimenaaDoor
open Go.RowKit

theorem row_put {W W' : World} {base n g : Nat} {v : Value} {xs : List Value} {cs : Array Value} {t : TypeId} {fr : Nat × Nat} (ho : W.ownsRow base 5 1 v n xs) (hg : W.grownBy W' v.ownBlock) (hr : W.heap[g]? = some (.cells cs t fr)) (ht : t ≠ 5) : W'.heap[g]? = some (.cells cs t fr) := by
  refine (hg.block g (block_lt hr) ?_).trans hr
  intro e
  rcases ho.2 with ⟨rfl, _⟩ | ⟨g', cap, cur, rfl, _, hh, _⟩
  · cases e
  · have : g = g' := by injection e
    subst this
    rw [hr] at hh
    injection hh with hh
    injection hh with _ h2 _
    exact ht h2
theorem below_put {w W W' : World} {base n : Nat} {v : Value} {xs : List Value} (hb : Below base w W) (hbase : base ≤ W.heap.size) (ho : W.ownsRow base 5 1 v n xs) (hg : W.grownBy W' v.ownBlock) : Below base w W' :=
  hb.grown hg hbase (fun q hq => (ho.lt q hq).1)

end Go.Proofs.YtellhmbebimenaaDoor
end
