/- Plain law of a report's bytes: which bytes are a report's. Plain law of a report's bytes: those of a report that may be tell it. The writer's contracts where all has room. Contracts: posting.Bytes, Key. Contract: report.Bytes. Contracts of the posting reference: at, put, Key, Bytes. Contracts of the posting reference: Key, Bytes, Of; and of posting.Of. Contracts of the posting reference: Key, Bytes. Contract: couponref17.Bytes. -/
import Derived.Test.YtolfekbhlfjniaaYRep
import Derived.Test.YtolfekbhlfjniaaYRead
import Derived.Test.YtolfekbhlfjniaaYWir
import Derived.Test.YtolfekbhlfjniaaPOrdB
import Derived.Test.YtolfekbhlfjniaaSumB
import Derived.Test.YtolfekbhlfjniaaPTen
import Derived.Deep.RegionHeld3
set_option linter.unusedVariables false
namespace Go.Proofs.Ytolfekbhlfjniaa
open Go.RowKit
theorem wf_i64 (n : Int) (h : -9223372036854775808 ≤ n ∧ n ≤ 9223372036854775807) : Lit.wf (.int .i64 n) := by
  simpa [Lit.wf, IntKind.min, IntKind.max, IntKind.signed, IntKind.bits] using h
theorem wf_u64 (n : Int) (h : 0 ≤ n ∧ n ≤ 18446744073709551615) : Lit.wf (.int .u64 n) := by
  simpa [Lit.wf, IntKind.min, IntKind.max, IntKind.signed, IntKind.bits] using h
theorem wrap64_in (n : Int) : -9223372036854775808 ≤ wrap64 n ∧ wrap64 n ≤ 9223372036854775807 := by unfold wrap64; omega
theorem pOf_wf (b : List UInt8) : (pOf b).wf := by
  have l := fun o k => vAt_lt b o k
  have l1 : vAt b 10 4 < 4294967296 := l 10 4
  have l2 : vAt b 0 8 < 18446744073709551616 := l 0 8
  have l3 : vAt b 8 2 < 65536 := l 8 2
  have l4 : vAt b 14 1 < 256 := l 14 1
  unfold pOf
  exact ⟨wf_i64 _ (by show _ ≤ ((vAt b 10 4 : Nat) : Int) ∧ ((vAt b 10 4 : Nat) : Int) ≤ _; omega), wf_u64 _ (by show _ ≤ ((vAt b 0 8 : Nat) : Int) ∧ ((vAt b 0 8 : Nat) : Int) ≤ _; omega), wf_i64 _ (by show _ ≤ ((vAt b 8 2 : Nat) : Int) ∧ ((vAt b 8 2 : Nat) : Int) ≤ _; omega), wf_i64 _ (by show _ ≤ ((vAt b 14 1 : Nat) : Int) ∧ ((vAt b 14 1 : Nat) : Int) ≤ _; omega), wf_i64 _ (wrap64_in _), wf_i64 _ (wrap64_in _), wf_i64 _ (wrap64_in _), wf_i64 _ (wrap64_in _), wf_i64 _ (wrap64_in _), wf_i64 _ (wrap64_in _)⟩
namespace Rep
/-- the k-th row's bytes, behind a report's head -/
def chunk (b : List UInt8) (k : Nat) : List UInt8 := rBy (stAt b (12 + 63 * k)) 63
def rowsK (b : List UInt8) (k : Nat) : List Pst := (List.range k).map fun i => pOf (chunk b i)
theorem rowsK_succ (b : List UInt8) (k : Nat) : rowsK b (k + 1) = rowsK b k ++ [pOf (chunk b k)] := by
  unfold rowsK
  rw [List.range_succ, List.map_append]
  rfl
theorem rowsK_length (b : List UInt8) (k : Nat) : (rowsK b k).length = k := by simp [rowsK]
theorem rowsK_wf (b : List UInt8) (k : Nat) : WF (rowsK b k) := by
  intro x hx
  unfold rowsK at hx
  obtain ⟨i, _, rfl⟩ := List.mem_map.1 hx
  exact pOf_wf _
theorem rowsK_mem {b : List UInt8} {k i : Nat} (h : i < k) : pOf (chunk b i) ∈ rowsK b k := List.mem_map.2 ⟨i, List.mem_range.2 h, rfl⟩
theorem stAt_cut (b : List UInt8) (o k : Nat) : rRest (stAt b o) (k : Int) = stAt b (o + k) := by
  unfold stAt
  by_cases h : o ≤ b.length
  · rw [if_pos h]
    by_cases h2 : o + k ≤ b.length
    · rw [if_pos h2, (rTake_fit (l := b.drop o) (n := k) (by rw [List.length_drop]; omega)).2, List.drop_drop]
    · rw [if_neg h2]
      exact (rTake_bad (fun l e => by injection e with e; subst e; rw [List.length_drop]; omega)).2
  · rw [if_neg h, if_neg (by omega)]; rfl
theorem stAt_len (b : List UInt8) (o : Nat) : rLen (stAt b o) = b.length - o := by
  unfold rLen stAt
  by_cases h : o ≤ b.length
  · rw [if_pos h]; simp
  · rw [if_neg h]; simp; omega
theorem stAt_nil (b : List UInt8) (o : Nat) : stAt b o = some [] ↔ b.length = o := by
  unfold stAt
  by_cases h : o ≤ b.length
  · rw [if_pos h]
    simp only [Option.some.injEq, List.drop_eq_nil_iff]; omega
  · rw [if_neg h]
    constructor
    · intro h; cases h
    · intro h2; omega
theorem chunk_len (b : List UInt8) (k : Nat) : (chunk b k).length = 63 ↔ 12 + 63 * (k + 1) ≤ b.length := by
  unfold chunk rBy stAt
  rw [show (63 : Int) = ((63 : Nat) : Int) from rfl]
  by_cases h : 12 + 63 * k ≤ b.length
  · rw [if_pos h]
    by_cases h2 : 12 + 63 * (k + 1) ≤ b.length
    · rw [(rTake_fit (l := b.drop (12 + 63 * k)) (n := 63) (by rw [List.length_drop]; omega)).1]
      simp only [Option.getD_some, List.length_take, List.length_drop]; omega
    · rw [(rTake_bad (st := some (b.drop (12 + 63 * k))) (n := ((63 : Nat) : Int)) (fun l e => by injection e with e; subst e; rw [List.length_drop]; omega)).1]
      simp; omega
  · rw [if_neg h]
    simp [rTake]; omega
theorem chunk_le (b : List UInt8) (k : Nat) : (chunk b k).length ≤ 63 := by
  unfold chunk
  exact rBy_le _ 63
def frB (b : List UInt8) : Int := (vAt b 0 4 : Nat)
def toB (b : List UInt8) : Int := (vAt b 4 4 : Nat)
def manyB (b : List UInt8) : Nat := vAt b 8 4
theorem headB (b : List UInt8) : (0 ≤ frB b ∧ frB b < 4294967296) ∧ (0 ≤ toB b ∧ toB b < 4294967296) ∧ manyB b < 4294967296 := by
  have h1 : vAt b 0 4 < 4294967296 := vAt_lt b 0 4
  have h2 : vAt b 4 4 < 4294967296 := vAt_lt b 4 4
  have h3 : vAt b 8 4 < 4294967296 := vAt_lt b 8 4
  unfold frB toB manyB
  exact ⟨⟨by omega, by omega⟩, ⟨by omega, by omega⟩, h3⟩
/-- are bytes just a report's that may be? -/
def OkB (b : List UInt8) : Prop := b.length = 12 + 63 * manyB b ∧ days (frB b) (toB b) = true ∧ FineP (rowsK b (manyB b)) ∧ (∀ z ∈ rowsK b (manyB b), within (frB b) (toB b) z = true) ∧ Srt.Up keyP (rowsK b (manyB b)) ∧ (Post.sums (rowsK b (manyB b))).e = 0
end Rep
end Go.Proofs.Ytolfekbhlfjniaa

set_option linter.unusedVariables false
set_option linter.unusedSimpArgs false
namespace Go.Proofs.Ytolfekbhlfjniaa
open Go.RowKit
theorem vAt_at (b x z : List UInt8) (n k o : Nat) (hk : k = 1 ∨ k = 2 ∨ k = 4 ∨ k = 8) (hn : n < 256 ^ k) (hb : b = x ++ (Wire.be n k ++ z)) (ho : x.length = o) : vAt b o k = n := by
  subst hb ho
  have hl : x.length + k ≤ (x ++ (Wire.be n k ++ z)).length := by simp only [List.length_append, Wire.be_length]; omega
  have h := be_vAt hk hl
  rw [List.drop_left, List.take_left' (Wire.be_length n k)] at h
  have e1 := congrArg Wire.ofBe h
  rwa [Wire.ofBe_be, Wire.ofBe_be, Nat.mod_eq_of_lt hn, Nat.mod_eq_of_lt (vAt_lt _ _ _)] at e1
theorem encP_length (p : Pst) : (encP p).length = 63 := by
  unfold encP encH encA Pst.am
  simp only [List.flatMap_cons, List.flatMap_nil, List.append_nil, List.length_append, Wire.be_length]
theorem in_i64 {n : Int} (h : Lit.wf (.int .i64 n)) : -9223372036854775808 ≤ n ∧ n ≤ 9223372036854775807 := by
  simpa [Lit.wf, IntKind.min, IntKind.max, IntKind.signed, IntKind.bits] using h
theorem in_u64 {n : Int} (h : Lit.wf (.int .u64 n)) : 0 ≤ n ∧ n ≤ 18446744073709551615 := by
  simpa [Lit.wf, IntKind.min, IntKind.max, IntKind.signed, IntKind.bits] using h
theorem wrap_u64 {n : Int} (h : Lit.wf (.int .i64 n)) : wrap64 ((u64 n : Nat) : Int) = n := by
  have := in_i64 h
  unfold wrap64 u64; omega
theorem u64_small {n : Int} (h0 : 0 ≤ n) (h1 : n ≤ 18446744073709551615) : ((u64 n : Nat) : Int) = n := by unfold u64; omega
theorem may_in {p : Pst} (hm : p.may = true) : (1 ≤ p.k ∧ p.k ≤ 5) ∧ (0 ≤ p.d ∧ p.d ≤ 1000000) ∧ (1 ≤ p.s ∧ p.s ≤ 200) := by
  unfold Pst.may Post.may at hm
  simp only [Bool.and_eq_true, decide_eq_true_eq] at hm
  obtain ⟨⟨⟨⟨⟨⟨⟨h1, h2⟩, h3⟩, h4⟩, h5⟩, h6⟩, h7⟩, h8⟩ := hm
  exact ⟨⟨h1, h2⟩, ⟨h4, h5⟩, ⟨h6, h7⟩⟩
theorem pOf_encP {p : Pst} (hw : p.wf) (hm : p.may = true) : pOf (encP p) = p := by
  obtain ⟨hk, hd, hs⟩ := may_in hm
  obtain ⟨w0, w1, w2, w3, w4, w5, w6, w7, w8, w9⟩ := hw
  have ht := in_u64 w1
  have e : encP p = Wire.be (u64 p.t) 8 ++ (Wire.be (u64 p.s) 2 ++ (Wire.be (u64 p.d) 4 ++ (Wire.be (u64 p.k) 1 ++ (Wire.be (u64 p.a0) 8 ++ (Wire.be (u64 p.a1) 8 ++ (Wire.be (u64 p.a2) 8 ++ (Wire.be (u64 p.a3) 8 ++ (Wire.be (u64 p.a4) 8 ++ Wire.be (u64 p.a5) 8)))))))) := by
    unfold encP encH encA Pst.am
    simp only [List.flatMap_cons, List.flatMap_nil, List.append_nil, List.append_assoc]
  have l := fun n => u64_lt n
  have v1 : vAt (encP p) 0 8 = u64 p.t := vAt_at _ [] _ _ 8 0 (by decide) (Nat.lt_of_lt_of_le (l _) (by decide)) e rfl
  have v2 : vAt (encP p) 8 2 = u64 p.s := vAt_at _ (Wire.be (u64 p.t) 8) _ _ 2 8 (by decide) (by have := u64_small (n := p.s) (by omega) (by omega); show u64 p.s < 65536; omega) e (by simp only [List.length_append, Wire.be_length])
  have v3 : vAt (encP p) 10 4 = u64 p.d := vAt_at _ (Wire.be (u64 p.t) 8 ++ Wire.be (u64 p.s) 2) _ _ 4 10 (by decide) (by have := u64_small (n := p.d) (by omega) (by omega); show u64 p.d < 4294967296; omega) (by rw [e]; simp only [List.append_assoc]; rfl) (by simp only [List.length_append, Wire.be_length])
  have v4 : vAt (encP p) 14 1 = u64 p.k := vAt_at _ (Wire.be (u64 p.t) 8 ++ Wire.be (u64 p.s) 2 ++ Wire.be (u64 p.d) 4) _ _ 1 14 (by decide) (by have := u64_small (n := p.k) (by omega) (by omega); show u64 p.k < 256; omega) (by rw [e]; simp only [List.append_assoc]; rfl) (by simp only [List.length_append, Wire.be_length])
  have v5 : vAt (encP p) 15 8 = u64 p.a0 := vAt_at _ (Wire.be (u64 p.t) 8 ++ Wire.be (u64 p.s) 2 ++ Wire.be (u64 p.d) 4 ++ Wire.be (u64 p.k) 1) _ _ 8 15 (by decide) (Nat.lt_of_lt_of_le (l _) (by decide)) (by rw [e]; simp only [List.append_assoc]; rfl) (by simp only [List.length_append, Wire.be_length])
  have v6 : vAt (encP p) 23 8 = u64 p.a1 := vAt_at _ (Wire.be (u64 p.t) 8 ++ Wire.be (u64 p.s) 2 ++ Wire.be (u64 p.d) 4 ++ Wire.be (u64 p.k) 1 ++ Wire.be (u64 p.a0) 8) _ _ 8 23 (by decide) (Nat.lt_of_lt_of_le (l _) (by decide)) (by rw [e]; simp only [List.append_assoc]; rfl) (by simp only [List.length_append, Wire.be_length])
  have v7 : vAt (encP p) 31 8 = u64 p.a2 := vAt_at _ (Wire.be (u64 p.t) 8 ++ Wire.be (u64 p.s) 2 ++ Wire.be (u64 p.d) 4 ++ Wire.be (u64 p.k) 1 ++ Wire.be (u64 p.a0) 8 ++ Wire.be (u64 p.a1) 8) _ _ 8 31 (by decide) (Nat.lt_of_lt_of_le (l _) (by decide)) (by rw [e]; simp only [List.append_assoc]; rfl) (by simp only [List.length_append, Wire.be_length])
  have v8 : vAt (encP p) 39 8 = u64 p.a3 := vAt_at _ (Wire.be (u64 p.t) 8 ++ Wire.be (u64 p.s) 2 ++ Wire.be (u64 p.d) 4 ++ Wire.be (u64 p.k) 1 ++ Wire.be (u64 p.a0) 8 ++ Wire.be (u64 p.a1) 8 ++ Wire.be (u64 p.a2) 8) _ _ 8 39 (by decide) (Nat.lt_of_lt_of_le (l _) (by decide)) (by rw [e]; simp only [List.append_assoc]; rfl) (by simp only [List.length_append, Wire.be_length])
  have v9 : vAt (encP p) 47 8 = u64 p.a4 := vAt_at _ (Wire.be (u64 p.t) 8 ++ Wire.be (u64 p.s) 2 ++ Wire.be (u64 p.d) 4 ++ Wire.be (u64 p.k) 1 ++ Wire.be (u64 p.a0) 8 ++ Wire.be (u64 p.a1) 8 ++ Wire.be (u64 p.a2) 8 ++ Wire.be (u64 p.a3) 8) _ _ 8 47 (by decide) (Nat.lt_of_lt_of_le (l _) (by decide)) (by rw [e]; simp only [List.append_assoc]; rfl) (by simp only [List.length_append, Wire.be_length])
  have v10 : vAt (encP p) 55 8 = u64 p.a5 := vAt_at _ (Wire.be (u64 p.t) 8 ++ Wire.be (u64 p.s) 2 ++ Wire.be (u64 p.d) 4 ++ Wire.be (u64 p.k) 1 ++ Wire.be (u64 p.a0) 8 ++ Wire.be (u64 p.a1) 8 ++ Wire.be (u64 p.a2) 8 ++ Wire.be (u64 p.a3) 8 ++ Wire.be (u64 p.a4) 8) [] _ 8 55 (by decide) (Nat.lt_of_lt_of_le (l _) (by decide)) (by rw [e]; simp only [List.append_assoc, List.append_nil]) (by simp only [List.length_append, Wire.be_length])
  unfold pOf
  rw [v1, v2, v3, v4, v5, v6, v7, v8, v9, v10, u64_small hd.1 (by omega), u64_small ht.1 ht.2, u64_small (n := p.s) (by omega) (by omega), u64_small (n := p.k) (by omega) (by omega), wrap_u64 w4, wrap_u64 w5, wrap_u64 w6, wrap_u64 w7, wrap_u64 w8, wrap_u64 w9]
namespace Rep
/-- a report's bytes -/
def headR (a b : Int) (n : Nat) : List UInt8 := (Wire.be (u64 a) 4 ++ Wire.be (u64 b) 4) ++ Wire.be n 4
def encR (a b : Int) (l : List Pst) : List UInt8 := headR a b l.length ++ l.flatMap encP
theorem headR_length (a b : Int) (n : Nat) : (headR a b n).length = 12 := by
  unfold headR; simp only [List.length_append, Wire.be_length]
theorem flat_length (l : List Pst) : (l.flatMap encP).length = 63 * l.length := by
  induction l with
  | nil => rfl
  | cons p l ih => rw [List.flatMap_cons, List.length_append, encP_length, ih, List.length_cons]; omega
theorem flat_drop (k : Nat) : ∀ l : List Pst, (l.flatMap encP).drop (63 * k) = (l.drop k).flatMap encP := by
  induction k with
  | zero => intro l; rfl
  | succ k ih =>
    intro l
    cases l with
    | nil => simp
    | cons p l =>
      rw [List.flatMap_cons, show 63 * (k + 1) = 63 + 63 * k from by omega, ← List.drop_drop, List.drop_left' (encP_length p), ih, List.drop_succ_cons]
theorem encR_length (a b : Int) (l : List Pst) : (encR a b l).length = 12 + 63 * l.length := by
  unfold encR; rw [List.length_append, headR_length, flat_length]
theorem chunk_enc {a b : Int} {l : List Pst} {k : Nat} {p : Pst} (h : l[k]? = some p) : chunk (encR a b l) k = encP p := by
  have hk := (List.getElem?_eq_some_iff.1 h).1
  have hl := encR_length a b l
  have e1 : (encR a b l).drop (12 + 63 * k) = (l.drop k).flatMap encP := by
    unfold encR
    rw [← List.drop_drop, List.drop_left' (headR_length a b l.length), flat_drop]
  have e2 : l.drop k = p :: l.drop (k + 1) := by
    rw [List.drop_eq_getElem_cons hk]
    congr 1
    exact (List.getElem?_eq_some_iff.1 h).2
  unfold chunk rBy stAt
  rw [if_pos (by omega), e1, e2, show (63 : Int) = ((63 : Nat) : Int) from rfl, (rTake_fit (l := (p :: l.drop (k + 1)).flatMap encP) (n := 63) (by rw [flat_length, List.length_cons]; omega)).1]
  rw [List.flatMap_cons]
  exact List.take_left' (encP_length p)
theorem rows_enc {a b : Int} {l : List Pst} (hw : WF l) (hm : ∀ p ∈ l, p.may = true) : ∀ k, k ≤ l.length → rowsK (encR a b l) k = l.take k := by
  intro k
  induction k with
  | zero => intro _; rfl
  | succ k ih =>
    intro hk
    obtain ⟨p, hp⟩ : ∃ p, l[k]? = some p := ⟨_, List.getElem?_eq_getElem (by omega)⟩
    have hin := List.mem_of_getElem? hp
    rw [rowsK_succ, ih (by omega), chunk_enc hp, pOf_encP (hw p hin) (hm p hin), List.take_add_one, hp]
    rfl
theorem enc_head {a b : Int} {l : List Pst} (ha : 0 ≤ a ∧ a ≤ 1000000) (hb : 0 ≤ b ∧ b ≤ 1000000) (hl : l.length ≤ 1000000) : frB (encR a b l) = a ∧ toB (encR a b l) = b ∧ manyB (encR a b l) = l.length := by
  have ua := u64_small (n := a) ha.1 (by omega)
  have ub := u64_small (n := b) hb.1 (by omega)
  have v1 : vAt (encR a b l) 0 4 = u64 a := vAt_at _ [] _ _ 4 0 (by decide) (by show u64 a < 4294967296; omega) (by unfold encR headR; simp only [List.append_assoc]; rfl) rfl
  have v2 : vAt (encR a b l) 4 4 = u64 b := vAt_at _ (Wire.be (u64 a) 4) _ _ 4 4 (by decide) (by show u64 b < 4294967296; omega) (by unfold encR headR; simp only [List.append_assoc]; rfl) (by simp only [Wire.be_length])
  have v3 : vAt (encR a b l) 8 4 = l.length := vAt_at _ (Wire.be (u64 a) 4 ++ Wire.be (u64 b) 4) _ _ 4 8 (by decide) (by show l.length < 4294967296; omega) (by unfold encR headR; simp only [List.append_assoc]; rfl) (by simp only [List.length_append, Wire.be_length])
  unfold frB toB manyB
  rw [v1, v2, v3]
  exact ⟨ua, ub, rfl⟩
theorem okB_enc {a b : Int} {l : List Pst} {m : Int} {x : List Int} (hw : WF l) (hl : l.length ≤ 1000000) (h : MayP a b l m x) : OkB (encR a b l) ∧ rowsK (encR a b l) (manyB (encR a b l)) = l ∧ frB (encR a b l) = a ∧ toB (encR a b l) = b := by
  obtain ⟨h1, h2, h3, h4, h5⟩ := h
  have hd := h1
  unfold days at hd
  simp only [Bool.and_eq_true, decide_eq_true_eq] at hd
  obtain ⟨e1, e2, e3⟩ := enc_head (a := a) (b := b) (l := l) (by omega) (by omega) hl
  have e4 : rowsK (encR a b l) (manyB (encR a b l)) = l := by rw [e3, rows_enc hw h2.1 _ (Nat.le_refl _), List.take_length]
  refine ⟨?_, e4, e1, e2⟩
  unfold OkB
  rw [e4, e1, e2, e3, h5]
  exact ⟨encR_length a b l, h1, h2, h3, h4, rfl⟩
end Rep
end Go.Proofs.Ytolfekbhlfjniaa

set_option linter.unusedVariables false
set_option linter.unusedSimpArgs false
namespace Go.Proofs.Ytolfekbhlfjniaa
open Go.RowKit

theorem IsW.drewE {w : World} {base bw k : Nat} {st : Option (List UInt8)} (h : IsW w base bw k st) : IsW w.drew base bw k st := h.below (Below.refl _ _).drew
theorem wnum_okE {L : List UInt8} {N k : Nat} (hk : k = 1 ∨ k = 2 ∨ k = 4 ∨ k = 8) (hN : N < 256 ^ k) : Wire.wNum (some L) N (k : Int) = some (L ++ Wire.be N k) := by
  unfold Wire.wNum
  rw [if_pos ⟨by rcases hk with rfl | rfl | rfl | rfl <;> rfl, by rw [Int.toNat_natCast]; exact hN⟩, Int.toNat_natCast]; rfl
theorem wint_okE {W : World} {base bw k : Nat} {L : List UInt8} (h : IsW W base bw k (some L)) (hk : k + 9 ≤ 536870912) (n : Int) :
    Calls Try.prog 84 #[.pointer (some ⟨bw, 0, none⟩), .int .i64 n] W fun e w' => e = .returned (.pointer (some ⟨bw, 0, none⟩)) ∧ WStep W w' base bw (k + 9) (some (L ++ Wire.be (u64 n) 8)) := by
  have := wint_any _ _ _ _ n hk W h
  rwa [show (8 : Int) = ((8 : Nat) : Int) from rfl, wnum_okE (by decide) (u64_lt n)] at this
theorem wnumber_okE {W : World} {base bw k : Nat} {L : List UInt8} (h : IsW W base bw k (some L)) (hk : k + 9 ≤ 536870912) (N : Nat) (s : Int) (hz : s = 1 ∨ s = 2 ∨ s = 4 ∨ s = 8) (hN : N < 256 ^ s.toNat) :
    Calls Try.prog 54 #[.pointer (some ⟨bw, 0, none⟩), .int .u64 (N : Int), .int .i64 s] W fun e w' => e = .returned (.pointer (some ⟨bw, 0, none⟩)) ∧ WStep W w' base bw (k + 9) (some (L ++ Wire.be N s.toNat)) := by
  obtain ⟨z, rfl⟩ := Int.eq_ofNat_of_zero_le (show 0 ≤ s by omega)
  rw [Int.toNat_natCast] at hN ⊢
  have hz' : z = 1 ∨ z = 2 ∨ z = 4 ∨ z = 8 := by omega
  have h256 : N < 18446744073709551616 := Nat.lt_of_lt_of_le hN (by rcases hz' with rfl | rfl | rfl | rfl <;> decide)
  have := wnumber_any _ _ _ _ N h256 (z : Int) hk W h
  rwa [wnum_okE hz' hN] at this
end Go.Proofs.Ytolfekbhlfjniaa

set_option linter.unusedVariables false
set_option linter.unusedSimpArgs false
namespace Go.Proofs.Ytolfekbhlfjniaa
open Go.RowKit

/-- the bytes of a posting that may be -/
def encQ (T S D K : Nat) : List UInt8 := (((Wire.be T 8 ++ Wire.be S 2) ++ Wire.be D 4) ++ Wire.be K 1)

set_option maxRecDepth 4000 in
set_option maxHeartbeats 2000000 in
theorem pBytes_any (T S D K : Nat) (a0 a1 a2 a3 a4 a5 : Int) (hT : T < 18446744073709551616) (hS : S < 65536) (hD : D < 4294967296) (hK : K < 256) (w : World) (hmay : Post.may D T S K [a0, a1, a2, a3, a4, a5] = true) :
    Calls Try.prog 55 #[.agg #[.int .i64 (D : Int), .int .u64 (T : Int), .int .i64 (S : Int), .int .i64 (K : Int), .int .i64 a0, .int .i64 a1, .int .i64 a2, .int .i64 a3, .int .i64 a4, .int .i64 a5]] w fun e w' =>
      ∃ u, e = .returned (.tuple #[u, .int .i64 0]) ∧ w'.ownsRow w.heap.size 5 1 u (encQ T S D K ++ encA [a0, a1, a2, a3, a4, a5]).length (bytesV (encQ T S D K ++ encA [a0, a1, a2, a3, a4, a5])) ∧ Below w.heap.size w w' := by
  have HMY := Lib.hid (fun W => may_any D T S K a0 a1 a2 a3 a4 a5 (by omega) (by omega) W)
  rw [hmay] at HMY
  have z1 : IntKind.u64.wrap (D : Int) = (D : Int) := by rw [IntKind.wrap_u64]; omega
  have z2 : IntKind.u64.wrap (K : Int) = (K : Int) := by rw [IntKind.wrap_u64]; omega
  have z3 : IntKind.u64.wrap (S : Int) = (S : Int) := by rw [IntKind.wrap_u64]; omega
  clear hmay
  go_enter Try.func55, Try.ntmps55
  go_wp2_with fail
  have hrp : (w.alloc (.cells #[.int .i64 (D : Int), .int .u64 (T : Int), .int .i64 (S : Int), .int .i64 (K : Int), .int .i64 a0, .int .i64 a1, .int .i64 a2, .int .i64 a3, .int .i64 a4, .int .i64 a5] 38)).heap[w.heap.size]? = some (.cells #[.int .i64 (D : Int), .int .u64 (T : Int), .int .i64 (S : Int), .int .i64 (K : Int), .int .i64 a0, .int .i64 a1, .int .i64 a2, .int .i64 a3, .int .i64 a4, .int .i64 a5] 38 (0, 0)) := new_rowW _ _ _ rfl
  have HBP := Lib.hid ((Below.refl w.heap.size w).alloc (Nat.le_refl _) (.cells #[.int .i64 (D : Int), .int .u64 (T : Int), .int .i64 (S : Int), .int .i64 (K : Int), .int .i64 a0, .int .i64 a1, .int .i64 a2, .int .i64 a3, .int .i64 a4, .int .i64 a5] 38))
  generalize w.alloc (.cells #[.int .i64 (D : Int), .int .u64 (T : Int), .int .i64 (S : Int), .int .i64 (K : Int), .int .i64 a0, .int .i64 a1, .int .i64 a2, .int .i64 a3, .int .i64 a4, .int .i64 a5] 38) = W0 at *
  have hlp := block_lt hrp
  refine (HMY.out _).mono ?_
  rintro e w1 ⟨rfl, hbm⟩
  have hrw : w1.heap[w.heap.size]? = some (.cells #[.int .i64 (D : Int), .int .u64 (T : Int), .int .i64 (S : Int), .int .i64 (K : Int), .int .i64 a0, .int .i64 a1, .int .i64 a2, .int .i64 a3, .int .i64 a4, .int .i64 a5] 38 (0, 0)) := (hbm.block w.heap.size hlp).trans hrp
  have HB1 := Lib.hid (HBP.out.trans (hbm.mono HBP.out.size))
  have hle : w.heap.size < w1.drew.heap.size := by have := block_lt hrw; simpa using this
  clear hbm hrp
  have hcp := fun j => cell_of_row w1 w.heap.size j _ _ _ hrw
  go_wp2_with fail
  have hi1 := new_writer w1.drew
  have hb1 := HB1.out.drew.alloc (Nat.le_of_lt hle) (.cells #[.slice none 0 0, .int .i64 0, .bool false] 92)
  go_region_held3 (fun w' => w'.cell? ⟨w.heap.size, 0, none⟩ = some (.int .i64 (D : Int)) ∧ w'.cell? ⟨w.heap.size, 1, none⟩ = some (.int .u64 (T : Int)) ∧ w'.cell? ⟨w.heap.size, 2, none⟩ = some (.int .i64 (S : Int)) ∧ w'.cell? ⟨w.heap.size, 3, none⟩ = some (.int .i64 (K : Int))) (first | exact ⟨cell_of_row _ _ 0 _ _ _ hrw, cell_of_row _ _ 1 _ _ _ hrw, cell_of_row _ _ 2 _ _ _ hrw, cell_of_row _ _ 3 _ _ _ hrw⟩ | exact ⟨cell_of_row _ _ 0 _ _ _ (row_allocW hrw _), cell_of_row _ _ 1 _ _ _ (row_allocW hrw _), cell_of_row _ _ 2 _ _ _ (row_allocW hrw _), cell_of_row _ _ 3 _ _ _ (row_allocW hrw _)⟩ | go_keep) (first
    | (go_at_call 54; refine (wnumber_okE hi1 (by omega) _ _ (by decide) (by first | exact hT | exact hS | exact hD | exact hK)).mono ?_; rintro e w2 ⟨rfl, hw2⟩; have hrw2 := hw2.2.1.block w.heap.size hle; have hrw : w2.heap[w.heap.size]? = some (.cells #[.int .i64 (D : Int), .int .u64 (T : Int), .int .i64 (S : Int), .int .i64 (K : Int), .int .i64 a0, .int .i64 a1, .int .i64 a2, .int .i64 a3, .int .i64 a4, .int .i64 a5] 38 (0, 0)) := hrw2.trans (by first | exact hrw | exact row_allocW hrw _); have hi1 := hw2.1; have hb1 := hb1.trans (hw2.2.1.mono (Nat.le_of_lt hle)); clear hw2 hrw2))
  have HI : Hid (IsW w2 w1.heap.size w1.heap.size 36 (some (encQ T S D K))) := Lib.hid hi1
  have HB := Lib.hid hb1
  have HRW := Lib.hid hrw
  have hcp2 := fun j => cell_of_row w2 w.heap.size j _ _ _ hrw
  have hlw : w.heap.size < w1.heap.size := hle
  clear hi1 hb1 hrw hcp
  go_wp2_with fail
  obtain ⟨am, hamd⟩ : ∃ am, am = [a0, a1, a2, a3, a4, a5] := ⟨_, rfl⟩
  have HAD := Lib.hid hamd
  have hal : am.length = 6 := by rw [hamd]; rfl
  have HOFP : Hid (∀ W : World, Calls Try.prog 83 #[.agg #[.int .i64 (D : Int), .int .u64 (T : Int), .int .i64 (S : Int), .int .i64 (K : Int), .int .i64 a0, .int .i64 a1, .int .i64 a2, .int .i64 a3, .int .i64 a4, .int .i64 a5]] W fun e w' => e = .returned (.agg (Post.amRow am)) ∧ Below W.heap.size W w') := Lib.hid (by rw [hamd]; exact fun W => of_post_any D T S K a0 a1 a2 a3 a4 a5 W)
  clear hamd
  refine (HOFP.out _).mono ?_
  rintro e w3 ⟨rfl, hb3⟩
  have HI3 := Lib.hid (HI.out.below hb3)
  have HB3 := Lib.hid (HB.out.trans (hb3.mono HB.out.size))
  clear hb3 hcp2
  go_wp2_with fail
  have hlq : (encQ T S D K).length = 15 := by unfold encQ; rw [List.length_append, List.length_append, List.length_append, Wire.be_length, Wire.be_length, Wire.be_length, Wire.be_length]
  have HLQ := Lib.hid hlq
  clear hlq
  generalize hQ : encQ T S D K = Q at *
  have HQ := Lib.hid hQ
  clear hQ
  go_loopw [28] (fun i wr => ∃ j : Nat, j ≤ 6 ∧ i = .int .i64 j ∧ IsW wr w1.heap.size w1.heap.size (36 + 9 * j) (some (Q ++ encA (am.take j))) ∧ Below w.heap.size w wr) (fun i _ => 6 - (intOf i).toNat)
  case atStart => exact ⟨0, by omega, rfl, by rw [show Q ++ encA (am.take 0) = Q from by simp [encA]]; exact HI3.out, HB3.out⟩
  case round =>
    obtain ⟨j, hj, rfl, hisw, hbw⟩ := hrel
    have HIJ := Lib.hid hisw
    have HBJ := Lib.hid hbw
    clear hisw hbw
    by_cases hlt : j < 6
    · have hix := fun W => run_am_at am hal j hlt W
      have htk : Q ++ encA (am.take (j + 1)) = (Q ++ encA (am.take j)) ++ Wire.be (u64 (am.getD j 0)) 8 := by
        have hx : am[j]? = some (am.getD j 0) := by rw [List.getD_eq_getElem?_getD, List.getElem?_eq_getElem (by omega)]; rfl
        rw [List.take_add_one, hx]
        unfold encA
        simp
      have HTK := Lib.hid htk
      clear htk
      generalize am.getD j 0 = z at *
      go_wp2_with fail
      refine (wint_okE HIJ.out (by omega) z).mono ?_
      rintro e w5 ⟨rfl, hw5⟩
      rw [← HTK.out] at hw5
      have HI5 := Lib.hid (hw5.1.mono (show 36 + 9 * j + 9 ≤ 36 + 9 * (j + 1) by omega))
      have HB5 := Lib.hid (HBJ.out.trans (hw5.2.1.mono (by omega)))
      clear hw5
      go_wp2
      go_roundw
      case rel => exact ⟨j + 1, by omega, by go_num, HI5.out, HB5.out⟩
      case measure => simp [intOf]; omega
    · obtain rfl : j = 6 := by omega
      have hall : am.take 6 = am := List.take_of_length_le (by omega)
      rw [hall, HAD.out] at HIJ
      go_wp2_with fail
      refine (wend_some _ _ _ _ (by omega) _ HIJ.out).mono ?_
      rintro e w6 ⟨u, rfl, hown, hb6⟩
      have HO6 := Lib.hid (own_mono hown HBJ.out.size)
      have HB6 := Lib.hid (HBJ.out.trans (hb6.mono HBJ.out.size))
      obtain ⟨q6, c6, rfl⟩ := own_form hown
      clear hown hb6
      generalize hnl : (Q ++ encA [a0, a1, a2, a3, a4, a5]).length = nl at *
      have HNL := Lib.hid hnl
      clear hnl
      go_wp2
      go_ret2
      exact ⟨_, rfl, by rw [HQ.out, HNL.out]; exact HO6.out, HB6.out⟩
theorem BS.recap {w : World} {p : Option Addr} {n cap c : Nat} {l : List UInt8} (h : BS w (.slice p n cap) l) (h1 : n ≤ c) (h2 : c ≤ cap) : BS w (.slice p n c) l := by
  obtain ⟨p', cap', e, g1, g2, g3⟩ := h
  injection e with e1 e2 e3
  subst e1; subst e3; subst e2
  exact ⟨_, c, rfl, h1, by omega, g3⟩
theorem run_head3 (q : Option Addr) (n cap k : Nat) (h : k ≤ cap) (W : World) : (Instr.slice 40 (.slice q n cap) none (some (.int .i64 (k : Int))) (some (.int .i64 (k : Int)))).run Try.prog W = .ok (.slice q k k) W := by
  have ht : Try.prog.underlying 40 = some (.slice (Try.prog.elem 40)) := by kernel_rfl
  have hz : ∀ W : World, (sizeOf (Try.prog.elem 40)).run Try.prog W = .ok 1 W := fun W => by
    rw [show Try.prog.elem 40 = 5 from by kernel_rfl]; simp [go_sem]
  rw [run_slice_hm W _ _ _ _ ht _ _ _ _ (by omega) (by omega) (by omega), hz]
  cases q <;> simp [sliced, Result.andThen, Addr.add]
end Go.Proofs.Ytolfekbhlfjniaa

set_option linter.unusedVariables false
set_option linter.unusedSimpArgs false
namespace Go.Proofs.Ytolfekbhlfjniaa
open Go.RowKit

theorem pBytesP (x : Pst) (hw : x.wf) (hm : x.may = true) (w : World) :
    Calls Try.prog 55 #[.agg #[.int .i64 x.d, .int .u64 x.t, .int .i64 x.s, .int .i64 x.k, .int .i64 x.a0, .int .i64 x.a1, .int .i64 x.a2, .int .i64 x.a3, .int .i64 x.a4, .int .i64 x.a5]] w fun e w' => ∃ u, e = .returned (.tuple #[u, .int .i64 0]) ∧ w'.ownsRow w.heap.size 5 1 u (encP x).length (bytesV (encP x)) ∧ Below w.heap.size w w' := by
  obtain ⟨hk, hd, hs⟩ := may_in hm
  have ht := in_u64 hw.2.1
  obtain ⟨d, t, s, k, a0, a1, a2, a3, a4, a5⟩ := x
  simp only at hk hd hs ht ⊢
  obtain ⟨D, rfl⟩ := Int.eq_ofNat_of_zero_le hd.1
  obtain ⟨T, rfl⟩ := Int.eq_ofNat_of_zero_le ht.1
  obtain ⟨S, rfl⟩ := Int.eq_ofNat_of_zero_le (show 0 ≤ s by omega)
  obtain ⟨K, rfl⟩ := Int.eq_ofNat_of_zero_le (show 0 ≤ k by omega)
  have h := pBytes_any T S D K a0 a1 a2 a3 a4 a5 (by omega) (by omega) (by omega) (by omega) w hm
  have e : encP ⟨(D : Int), (T : Int), (S : Int), (K : Int), a0, a1, a2, a3, a4, a5⟩ = encQ T S D K ++ encA [a0, a1, a2, a3, a4, a5] := by
    unfold encP encH encQ Pst.am
    simp only
    rw [u64_nat T (by omega), u64_nat S (by omega), u64_nat D (by omega), u64_nat K (by omega)]
  rw [e]
  exact h

set_option maxRecDepth 4000 in
set_option maxHeartbeats 4000000 in
theorem pBytesR_bad (a b : Int) (l : List Pst) (p : Option Addr) (n cap : Nat) (m x0 x1 x2 x3 x4 x5 : Int) (hbad : ¬ Rep.MayP a b l m [x0, x1, x2, x3, x4, x5]) (w : World) (hs : PS w (.slice p n cap) l) :
    Calls Try.prog 21 #[.agg #[.int .i64 a, .int .i64 b, (.slice p n cap), .int .i64 m, .int .i64 x0, .int .i64 x1, .int .i64 x2, .int .i64 x3, .int .i64 x4, .int .i64 x5]] w fun e w' => e = .returned (.tuple #[.slice none 0 0, .int .i64 2]) ∧ Below w.heap.size w w' := by
  have HB0 := Lib.hid ((Below.refl w.heap.size w).alloc (Nat.le_refl _) (.cells #[.int .i64 a, .int .i64 b, (.slice p n cap), .int .i64 m, .int .i64 x0, .int .i64 x1, .int .i64 x2, .int .i64 x3, .int .i64 x4, .int .i64 x5] 27 (0, 0)))
  have hr0 := new_row w (.cells #[.int .i64 a, .int .i64 b, (.slice p n cap), .int .i64 m, .int .i64 x0, .int .i64 x1, .int .i64 x2, .int .i64 x3, .int .i64 x4, .int .i64 x5] 27 (0, 0)) _ rfl
  have hc0 := fun j => cell_of_row _ w.heap.size j _ _ _ hr0
  have HM := Lib.hid (fun W h => pMay_any a b l p n cap m x0 x1 x2 x3 x4 x5 false (by simp [hbad]) W h)
  have HPS := Lib.hid hs
  clear hs hbad hr0
  go_enter Try.func21, Try.ntmps21
  go_wp2_with fail
  refine (HM.out _ (HPS.out.below HB0.out)).mono ?_
  rintro e w1 ⟨rfl, hb1⟩
  have HB1 := Lib.hid (HB0.out.trans (hb1.mono HB0.out.size))
  clear hb1 hc0
  go_wp2
  go_ret2
  exact ⟨rfl, HB1.out⟩

set_option maxRecDepth 4000 in
set_option maxHeartbeats 4000000 in
theorem pBytesR_ok (a b : Int) (l : List Pst) (p : Option Addr) (n cap : Nat) (hn : n ≤ 1000) (m x0 x1 x2 x3 x4 x5 : Int) (hok : Rep.MayP a b l m [x0, x1, x2, x3, x4, x5]) (w : World) (hs : PS w (.slice p n cap) l) :
    Calls Try.prog 21 #[.agg #[.int .i64 a, .int .i64 b, (.slice p n cap), .int .i64 m, .int .i64 x0, .int .i64 x1, .int .i64 x2, .int .i64 x3, .int .i64 x4, .int .i64 x5]] w fun e w' => ∃ u, e = .returned (.tuple #[u, .int .i64 0]) ∧ w'.ownsRow w.heap.size 5 1 u (Rep.encR a b l).length (bytesV (Rep.encR a b l)) ∧ Below w.heap.size w w' := by
  have hd := hok.1
  unfold Rep.days at hd
  simp only [Bool.and_eq_true, decide_eq_true_eq] at hd
  obtain ⟨A, rfl⟩ := Int.eq_ofNat_of_zero_le (show 0 ≤ a by omega)
  obtain ⟨B, rfl⟩ := Int.eq_ofNat_of_zero_le (show 0 ≤ b by omega)
  have hA : A < 4294967296 := by omega
  have hB : B < 4294967296 := by omega
  have hN : n < 4294967296 := by omega
  have zA : IntKind.u64.wrap (A : Int) = (A : Int) := by rw [IntKind.wrap_u64]; omega
  have zB : IntKind.u64.wrap (B : Int) = (B : Int) := by rw [IntKind.wrap_u64]; omega
  have zN : IntKind.u64.wrap (n : Int) = (n : Int) := by rw [IntKind.wrap_u64]; omega
  have HPS := Lib.hid hs; have HWF := Lib.hid (ps_wf hs)
  have hln := ps_len hs
  have HN := Lib.hid hln.1
  have hn1 := hln.2.1
  have hn2 := hln.2.2
  have HALL := Lib.hid hok.2.1.1
  have HE : Hid (Rep.encR (A : Int) (B : Int) l = (((Wire.be A 4 ++ Wire.be B 4) ++ Wire.be n 4) ++ l.flatMap encP)) := Lib.hid (by
    unfold Rep.encR Rep.headR
    rw [u64_nat A (by omega), u64_nat B (by omega), hln.1])
  have HM := Lib.hid (fun W h => pMay_any (A : Int) (B : Int) l p n cap m x0 x1 x2 x3 x4 x5 true (by simp [hok]) W h)
  have HB0 := Lib.hid ((Below.refl w.heap.size w).alloc (Nat.le_refl _) (.cells #[.int .i64 (A : Int), .int .i64 (B : Int), (.slice p n cap), .int .i64 m, .int .i64 x0, .int .i64 x1, .int .i64 x2, .int .i64 x3, .int .i64 x4, .int .i64 x5] 27 (0, 0)))
  have hr0 := new_row w (.cells #[.int .i64 (A : Int), .int .i64 (B : Int), (.slice p n cap), .int .i64 m, .int .i64 x0, .int .i64 x1, .int .i64 x2, .int .i64 x3, .int .i64 x4, .int .i64 x5] 27 (0, 0)) _ rfl
  have hc0 := fun j => cell_of_row _ w.heap.size j _ _ _ hr0
  have HR0 := Lib.hid hr0
  clear hs hok hd hln hr0
  go_enter Try.func21, Try.ntmps21
  go_wp2_with fail
  refine (HM.out _ (HPS.out.below HB0.out)).mono ?_
  rintro e w1 ⟨rfl, hb1⟩
  have hr1 := (hb1.block w.heap.size (block_lt HR0.out)).trans HR0.out
  have HB1 := Lib.hid (HB0.out.trans (hb1.mono HB0.out.size))
  have hc1 := fun j => cell_of_row _ w.heap.size j _ _ _ hr1
  have hle : w.heap.size < w1.drew.heap.size := by have := block_lt hr1; simpa using this
  clear hb1 hc0
  go_wp2_with fail
  have hi1 := new_writer w1.drew
  have hb1 := HB1.out.drew.alloc (Nat.le_of_lt hle) (.cells #[.slice none 0 0, .int .i64 0, .bool false] 92)
  have hrw := hr1
  have d0 : w1.cell? ⟨w.heap.size, 0, none⟩ = some (.int .i64 (A : Int)) := hc1 0
  have d1 : w1.cell? ⟨w.heap.size, 1, none⟩ = some (.int .i64 (B : Int)) := hc1 1
  have d2 : w1.cell? ⟨w.heap.size, 2, none⟩ = some (.slice p n cap) := hc1 2
  have e0 : (w1.drew.alloc (.cells #[.slice none 0 0, .int .i64 0, .bool false] 92)).cell? ⟨w.heap.size, 0, none⟩ = some (.int .i64 (A : Int)) := cell_of_row _ _ 0 _ _ _ (row_allocW (w := w1.drew) hr1 _)
  have e1 : (w1.drew.alloc (.cells #[.slice none 0 0, .int .i64 0, .bool false] 92)).cell? ⟨w.heap.size, 1, none⟩ = some (.int .i64 (B : Int)) := cell_of_row _ _ 1 _ _ _ (row_allocW (w := w1.drew) hr1 _)
  have e2 : (w1.drew.alloc (.cells #[.slice none 0 0, .int .i64 0, .bool false] 92)).cell? ⟨w.heap.size, 2, none⟩ = some (.slice p n cap) := cell_of_row _ _ 2 _ _ _ (row_allocW (w := w1.drew) hr1 _)
  go_region_held3 (fun w' => w'.cell? ⟨w.heap.size, 0, none⟩ = some (.int .i64 (A : Int)) ∧ w'.cell? ⟨w.heap.size, 1, none⟩ = some (.int .i64 (B : Int)) ∧ w'.cell? ⟨w.heap.size, 2, none⟩ = some (.slice p n cap)) (first | with_reducible exact ⟨d0, d1, d2⟩ | with_reducible exact ⟨e0, e1, e2⟩ | go_keep) (first
    | (go_at_call 54; refine (wnumber_okE hi1 (by omega) _ _ (by decide) (by first | exact hA | exact hB | exact hN)).mono ?_; rintro e w2 ⟨rfl, hw2⟩; have hrw2 := hw2.2.1.block w.heap.size hle; have hrw : w2.heap[w.heap.size]? = some (.cells #[.int .i64 (A : Int), .int .i64 (B : Int), (.slice p n cap), .int .i64 m, .int .i64 x0, .int .i64 x1, .int .i64 x2, .int .i64 x3, .int .i64 x4, .int .i64 x5] 27 (0, 0)) := hrw2.trans (by first | exact hrw | exact row_allocW hrw _); have d0 : w2.cell? ⟨w.heap.size, 0, none⟩ = some (.int .i64 (A : Int)) := cell_of_row _ _ 0 _ _ _ hrw; have d1 : w2.cell? ⟨w.heap.size, 1, none⟩ = some (.int .i64 (B : Int)) := cell_of_row _ _ 1 _ _ _ hrw; have d2 : w2.cell? ⟨w.heap.size, 2, none⟩ = some (.slice p n cap) := cell_of_row _ _ 2 _ _ _ hrw; have hi1 := hw2.1; have hb1 := hb1.trans (hw2.2.1.mono (Nat.le_of_lt hle)); clear hw2 hrw2))
  have HI : Hid (IsW w2 w1.heap.size w1.heap.size 27 (some (((Wire.be A 4 ++ Wire.be B 4) ++ Wire.be n 4)))) := Lib.hid hi1
  have HB := Lib.hid hb1
  have HRW := Lib.hid hrw
  have hcp2 := fun j => cell_of_row w2 w.heap.size j _ _ _ hrw
  have HLE : Hid (w.heap.size ≤ w1.heap.size) := Lib.hid (Nat.le_of_lt hle)
  clear hi1 hb1 hrw hc1 d0 d1 d2 e0 e1 e2 hle
  generalize ((Wire.be A 4 ++ Wire.be B 4) ++ Wire.be n 4) = H at *
  go_wp2
  go_loopw [29] (fun i wr => ∃ j : Nat, j ≤ n ∧ i = .int .i64 j ∧ IsW wr w1.heap.size w1.heap.size (27 + 64 * j) (some (H ++ (l.take j).flatMap encP)) ∧ Below w.heap.size w wr) (fun i _ => n - (intOf i).toNat)
  case atStart => exact ⟨0, Nat.zero_le _, rfl, by rw [show H ++ (l.take 0).flatMap encP = H from by simp]; exact HI.out, HB.out⟩
  case round =>
    obtain ⟨j, hj, rfl, hisw, hbw⟩ := hrel
    have HIJ := Lib.hid hisw
    have HBJ := Lib.hid hbw
    by_cases hlt : j < n
    · obtain ⟨x, hx⟩ : ∃ x, l[j]? = some x := ⟨_, List.getElem?_eq_getElem (by have := HN.out; omega)⟩
      obtain ⟨bb, o, rfl, hbl, hat⟩ := ps_at (HPS.out.below hbw) hx
      have hin := List.mem_of_getElem? hx
      have HPB := Lib.hid (fun W => pBytesP x (HWF.out x hin) (HALL.out x hin) W)
      have HTK : Hid (H ++ (l.take (j + 1)).flatMap encP = (H ++ (l.take j).flatMap encP) ++ encP x) := Lib.hid (by
        rw [List.take_add_one, hx, List.flatMap_append, List.append_assoc]
        simp)
      have HLX := Lib.hid (encP_length x)
      unfold PAt at hat
      obtain ⟨c0, c1, c2, c3, c4, c5, c6, c7, c8, c9⟩ := hat
      have hb0 := (Below.refl wr.heap.size wr).alloc (Nat.le_refl _) (.cells #[.int .i64 x.d, .int .u64 x.t, .int .i64 x.s, .int .i64 x.k, .int .i64 x.a0, .int .i64 x.a1, .int .i64 x.a2, .int .i64 x.a3, .int .i64 x.a4, .int .i64 x.a5] 38 (0, 0))
      have hrow := new_row wr (.cells #[.int .i64 x.d, .int .u64 x.t, .int .i64 x.s, .int .i64 x.k, .int .i64 x.a0, .int .i64 x.a1, .int .i64 x.a2, .int .i64 x.a3, .int .i64 x.a4, .int .i64 x.a5] 38 (0, 0)) _ rfl
      have hcx := fun j => cell_of_row _ wr.heap.size j _ _ _ hrow
      have HBA := Lib.hid hb0
      clear hx hbw hisw hb0 hrow hin
      go_wp2_with fail
      refine (HPB.out _).mono ?_
      rintro e w3 ⟨u, rfl, hown, hb3⟩
      have HB3 := Lib.hid (HBA.out.trans (hb3.mono HBA.out.size))
      have HI3 := Lib.hid (HIJ.out.below HB3.out)
      have HBW3 := Lib.hid (HBJ.out.trans (HB3.out.mono HBJ.out.size))
      have HBS := Lib.hid (BS.of_own hown)
      clear hown hb3 hcx c0 c1 c2 c3 c4 c5 c6 c7 c8 c9
      go_wp2_with fail
      refine (wbytes_some w1.heap.size w1.heap.size (27 + 64 * j) _ u (encP x) (by have := HLX.out; omega) w3 HI3.out HBS.out).mono ?_
      rintro e w4 ⟨rfl, hw4⟩
      rw [← HTK.out, HLX.out] at hw4
      have HI4 := Lib.hid (hw4.1.mono (show 27 + 64 * j + 1 + 63 ≤ 27 + 64 * (j + 1) by omega))
      have HB4 := Lib.hid (HBW3.out.trans (hw4.2.1.mono HLE.out))
      clear hw4
      go_wp2
      go_roundw
      case rel => exact ⟨j + 1, by omega, by go_num, HI4.out, HB4.out⟩
      case measure => simp [intOf]; omega
    · obtain rfl : j = n := by omega
      rw [List.take_of_length_le (by have := HN.out; omega), ← HE.out] at HIJ
      clear hbw hisw
      go_wp2_with fail
      refine (wend_some _ _ _ _ (by omega) _ HIJ.out).mono ?_
      rintro e w6 ⟨u, rfl, hown, hb6⟩
      have HO6 := Lib.hid (own_mono hown HBJ.out.size)
      have HB6 := Lib.hid (HBJ.out.trans (hb6.mono HBJ.out.size))
      clear hown hb6
      go_wp2
      go_ret2
      exact ⟨u, rfl, HO6.out, HB6.out⟩
end Go.Proofs.Ytolfekbhlfjniaa

set_option linter.unusedVariables false
set_option linter.unusedSimpArgs false
namespace Go.Proofs.Ytolfekbhlfjniaa
open Go.RowKit

set_option maxRecDepth 4000 in
set_option maxHeartbeats 1000000 in
theorem at14_any (v : Value) (b : List UInt8) (fr : Nat) (hfr : fr ≤ b.length) (s : Int) (w : World) (hv : BS w v b) :
    Calls Try.prog 74 #[v, .int .i64 (fr : Int), .int .i64 s] w fun e w' => e = .returned (.int .u64 (numV (b.drop fr) s : Int)) ∧ ∃ nd, w' = w.drewN nd := by
  have HV := Lib.hid hv
  obtain ⟨p, cap, rfl, g1, g2, -⟩ := hv
  have HTN := Lib.hid (rTakeNumber_any _ (b.drop fr) s w (HV.out.tail hfr))
  have HVT := Lib.hid (HV.out.tail hfr)
  have f2 := run_tail p b.length cap fr hfr g1
  generalize numV (b.drop fr) s = V at *
  generalize tailAt p cap fr = q at *
  generalize b.length = m at *
  unfold maxLen at g2
  go_enter Try.func74, Try.ntmps74
  go_wp2_with fail
  refine HTN.out.mono ?_
  rintro e w1 ⟨y, rfl, hy, nd, rfl⟩
  obtain ⟨py, cy, rfl, -, -, -⟩ := hy w HVT.out
  clear hy
  go_wp2
  go_ret
  exact ⟨rfl, nd, rfl⟩

set_option maxRecDepth 4000 in
set_option maxHeartbeats 1000000 in
theorem put14_any (base : Nat) (v : Value) (L : List UInt8) (N : Nat) (hN : N < 18446744073709551616) (s : Nat) (hs : s = 1 ∨ s = 2 ∨ s = 4 ∨ s = 8) (hfit : N < 256 ^ s) (hL : L.length ≤ 1000) (w : World) (hb : base ≤ w.heap.size) (ho : w.ownsRow base 5 1 v L.length (bytesV L)) :
    Calls Try.prog 88 #[v, .int .u64 (N : Int), .int .i64 (s : Int)] w fun e w' => ∃ u, e = .returned u ∧ w'.ownsRow base 5 1 u (L ++ Wire.be N s).length (bytesV (L ++ Wire.be N s)) ∧ w.grownBy w' v.ownBlock := by
  have HNU := Lib.hid (rNumber_any N hN (s : Int) w)
  have hp : pNum N (s : Int) = some (Wire.be N s) := by
    unfold pNum
    rw [if_pos ⟨by rcases hs with rfl | rfl | rfl | rfl <;> rfl, by rw [Int.toNat_natCast]; exact hfit⟩, Int.toNat_natCast]
  rw [hp] at HNU
  have HLB := Lib.hid (Wire.be_length N s)
  have HO := Lib.hid ho
  have HLL := Lib.hid hL
  obtain ⟨q, c, rfl⟩ := own_form ho
  clear hp hfit ho hL
  rw [show pGet (some (Wire.be N s)) = Wire.be N s from rfl, show (some (Wire.be N s)).isSome = true from rfl] at HNU
  generalize Wire.be N s = B at *
  generalize hLn : L.length = nl at *
  have HLN := Lib.hid hLn
  clear hLn
  go_enter Try.func88, Try.ntmps88
  go_wp2_with fail
  refine HNU.out.mono ?_
  rintro e w1 ⟨u, rfl, hown, hb1⟩
  have HOB := Lib.hid (BS.of_own hown)
  have HB := Lib.hid hb1
  have HO1 := Lib.hid (own_below HO.out hb1)
  obtain ⟨q1, c1, rfl⟩ := own_form hown
  clear hown hb1
  go_wp2_with (at_builtin; refine wpList_append_bytes rfl _ _ rfl base _ _ _ rfl HO1.out _ B rfl HOB.out ?c1 ?c2 ?_)
  case c1 => have := HLB.out; have := HLL.out; omega
  case c2 => have := HB.out.size; omega
  intro v2 w2 hown2 hg2 hn2 hat2
  have HG : Hid (w.grownBy w2 (Value.slice q nl c).ownBlock) := Lib.hid ⟨hg2.os.trans HB.out.os, hg2.tape.trans HB.out.tape, hg2.output.trans HB.out.output, Nat.le_trans HB.out.size hg2.size, fun k hk hne => (hg2.block k (Nat.lt_of_lt_of_le hk HB.out.size) hne).trans (HB.out.block k hk)⟩
  have HO2 : Hid (w2.ownsRow base 5 1 v2 (L ++ B).length (bytesV (L ++ B))) := Lib.hid (by rw [List.length_append, bytesV_append, HLN.out]; exact hown2)
  obtain ⟨q2, c2, rfl⟩ := own_form hown2
  clear hown2 hg2 hn2 hat2
  go_wp2
  go_ret
  exact ⟨_, rfl, by rw [List.length_append, HLN.out]; have := HO2.out; rwa [List.length_append, HLN.out] at this, HG.out⟩
end Go.Proofs.Ytolfekbhlfjniaa

set_option linter.unusedVariables false
set_option linter.unusedSimpArgs false
namespace Go.Proofs.Ytolfekbhlfjniaa
open Go.RowKit

theorem row_put {W W' : World} {base n g : Nat} {v : Value} {xs : List Value} {cs : Array Value} {t : TypeId} {fr : Nat × Nat} (ho : W.ownsRow base 5 1 v n xs) (hg : W.grownBy W' v.ownBlock) (hr : W.heap[g]? = some (.cells cs t fr)) (ht : t ≠ 5) : W'.heap[g]? = some (.cells cs t fr) := by
  refine (hg.block g (block_lt hr) ?_).trans hr
  intro e
  rcases ho.2 with ⟨rfl, _⟩ | ⟨g', cap, cur, rfl, _, hh, _⟩
  · cases e
  · have : g = g' := by injection e
    subst this
    rw [hr] at hh
    injection hh with hh
    injection hh with _ h2 _
    exact ht h2
theorem below_put {w W W' : World} {base n : Nat} {v : Value} {xs : List Value} (hb : Below base w W) (hbase : base ≤ W.heap.size) (ho : W.ownsRow base 5 1 v n xs) (hg : W.grownBy W' v.ownBlock) : Below base w W' :=
  hb.grown hg hbase (fun q hq => (ho.lt q hq).1)

end Go.Proofs.Ytolfekbhlfjniaa

set_option linter.unusedVariables false
set_option linter.unusedSimpArgs false
namespace Go.Proofs.Ytolfekbhlfjniaa
open Go.RowKit

set_option maxRecDepth 4000 in
set_option maxHeartbeats 1000000 in
theorem rKey14_any (d k a0 a1 a2 a3 a4 a5 : Int) (T S : Nat) (hT : T < 18446744073709551616) (hS : S < 65536) (w : World) :
    Calls Try.prog 89 #[.agg #[.int .i64 d, .int .u64 (T : Int), .int .i64 (S : Int), .int .i64 k, .int .i64 a0, .int .i64 a1, .int .i64 a2, .int .i64 a3, .int .i64 a4, .int .i64 a5]] w fun e w' => ∃ u, e = .returned u ∧ w'.ownsRow w.heap.size 5 1 u (Wire.be T 8 ++ Wire.be S 2).length (bytesV (Wire.be T 8 ++ Wire.be S 2)) ∧ Below w.heap.size w w' := by
  have z1 : IntKind.u64.wrap (S : Int) = (S : Int) := by rw [IntKind.wrap_u64]; omega
  have hrw : (w.alloc (.cells #[.int .i64 d, .int .u64 (T : Int), .int .i64 (S : Int), .int .i64 k, .int .i64 a0, .int .i64 a1, .int .i64 a2, .int .i64 a3, .int .i64 a4, .int .i64 a5] 38)).heap[w.heap.size]? = some (.cells #[.int .i64 d, .int .u64 (T : Int), .int .i64 (S : Int), .int .i64 k, .int .i64 a0, .int .i64 a1, .int .i64 a2, .int .i64 a3, .int .i64 a4, .int .i64 a5] 38 (0, 0)) := new_rowW _ _ _ rfl
  have hb := (Below.refl w.heap.size w).alloc (Nat.le_refl _) (.cells #[.int .i64 d, .int .u64 (T : Int), .int .i64 (S : Int), .int .i64 k, .int .i64 a0, .int .i64 a1, .int .i64 a2, .int .i64 a3, .int .i64 a4, .int .i64 a5] 38)
  go_enter Try.func89, Try.ntmps89
  go_wp2_with fail
  generalize w.alloc (.cells #[.int .i64 d, .int .u64 (T : Int), .int .i64 (S : Int), .int .i64 k, .int .i64 a0, .int .i64 a1, .int .i64 a2, .int .i64 a3, .int .i64 a4, .int .i64 a5] 38) = W0 at *
  have hc0 := fun j => cell_of_row W0 w.heap.size j _ _ _ hrw
  have hb := hb.drew
  go_region_held3 (fun w' => w'.cell? ⟨w.heap.size, 1, none⟩ = some (.int .u64 (T : Int)) ∧ w'.cell? ⟨w.heap.size, 2, none⟩ = some (.int .i64 (S : Int))) (first | exact ⟨cell_of_row _ _ 1 _ _ _ hrw, cell_of_row _ _ 2 _ _ _ hrw⟩ | go_keep) (first
    | (go_at_call 88; refine (put14_any w.heap.size _ _ S (by omega) 2 (by decide) (by omega) hl1 _ hb.size ho1).mono ?_; rintro e w2 ⟨u2, rfl, ho2, hg2⟩; have hrw := row_put ho1 hg2 hrw (by decide); have hb := below_put hb hb.size ho1 hg2; obtain ⟨q2, c2, rfl⟩ := own_form ho2)
    | (go_at_call 88; refine (put14_any w.heap.size (.slice none 0 0) [] T hT 8 (by decide) hT (by decide) _ hb.size (World.ownsRow_nil _ _ _ _)).mono ?_; rintro e w1 ⟨u1, rfl, ho1, hg1⟩; have hrw := row_put (World.ownsRow_nil W0.drew w.heap.size 5 1) hg1 hrw (by decide); have hb := below_put hb hb.size (World.ownsRow_nil W0.drew w.heap.size 5 1) hg1; have hl1 : ([] ++ Wire.be T 8).length ≤ 1000 := (by rw [List.nil_append, Wire.be_length]; decide); obtain ⟨q1, c1, rfl⟩ := own_form ho1))
  have HF := Lib.hid hb
  have HO := Lib.hid ho2
  clear hb ho1 ho2 hg1 hg2 hrw
  go_wp2
  go_ret
  exact ⟨_, rfl, HO.out, HF.out⟩

set_option maxRecDepth 4000 in
set_option maxHeartbeats 1000000 in
theorem rBytes14_any (a0 a1 a2 a3 a4 a5 : Int) (D T S K : Nat) (hD : D < 4294967296) (hT : T < 18446744073709551616) (hS : S < 65536) (hK : K < 256) (w : World) :
    Calls Try.prog 61 #[.agg #[.int .i64 (D : Int), .int .u64 (T : Int), .int .i64 (S : Int), .int .i64 (K : Int), .int .i64 a0, .int .i64 a1, .int .i64 a2, .int .i64 a3, .int .i64 a4, .int .i64 a5]] w fun e w' => ∃ u, e = .returned u ∧ w'.ownsRow w.heap.size 5 1 u ((((Wire.be T 8 ++ Wire.be S 2) ++ Wire.be D 4) ++ Wire.be K 1) ++ encA [a0, a1, a2, a3, a4, a5]).length (bytesV ((((Wire.be T 8 ++ Wire.be S 2) ++ Wire.be D 4) ++ Wire.be K 1) ++ encA [a0, a1, a2, a3, a4, a5])) ∧ Below w.heap.size w w' := by
  have z1 : IntKind.u64.wrap (D : Int) = (D : Int) := by rw [IntKind.wrap_u64]; omega
  have z2 : IntKind.u64.wrap (K : Int) = (K : Int) := by rw [IntKind.wrap_u64]; omega
  have hrw : (w.alloc (.cells #[.int .i64 (D : Int), .int .u64 (T : Int), .int .i64 (S : Int), .int .i64 (K : Int), .int .i64 a0, .int .i64 a1, .int .i64 a2, .int .i64 a3, .int .i64 a4, .int .i64 a5] 38)).heap[w.heap.size]? = some (.cells #[.int .i64 (D : Int), .int .u64 (T : Int), .int .i64 (S : Int), .int .i64 (K : Int), .int .i64 a0, .int .i64 a1, .int .i64 a2, .int .i64 a3, .int .i64 a4, .int .i64 a5] 38 (0, 0)) := new_rowW _ _ _ rfl
  have hb := (Below.refl w.heap.size w).alloc (Nat.le_refl _) (.cells #[.int .i64 (D : Int), .int .u64 (T : Int), .int .i64 (S : Int), .int .i64 (K : Int), .int .i64 a0, .int .i64 a1, .int .i64 a2, .int .i64 a3, .int .i64 a4, .int .i64 a5] 38)
  have HKEY := Lib.hid (fun W => rKey14_any (D : Int) (K : Int) a0 a1 a2 a3 a4 a5 T S hT hS W)
  have hq1 : (Wire.be T 8 ++ Wire.be S 2).length ≤ 1000 := by rw [List.length_append, Wire.be_length, Wire.be_length]; decide
  have hq2 : ((Wire.be T 8 ++ Wire.be S 2) ++ Wire.be D 4).length ≤ 1000 := by rw [List.length_append, List.length_append, Wire.be_length, Wire.be_length, Wire.be_length]; decide
  have hq3 : (((Wire.be T 8 ++ Wire.be S 2) ++ Wire.be D 4) ++ Wire.be K 1).length = 15 := by rw [List.length_append, List.length_append, List.length_append, Wire.be_length, Wire.be_length, Wire.be_length, Wire.be_length]
  have HQ3 := Lib.hid hq3
  clear hq3
  generalize Wire.be T 8 ++ Wire.be S 2 = L1 at *
  generalize hL2 : L1 ++ Wire.be D 4 = L2 at *
  generalize hL3 : L2 ++ Wire.be K 1 = L3 at *
  go_enter Try.func61, Try.ntmps61
  go_wp2_with fail
  generalize w.alloc (.cells #[.int .i64 (D : Int), .int .u64 (T : Int), .int .i64 (S : Int), .int .i64 (K : Int), .int .i64 a0, .int .i64 a1, .int .i64 a2, .int .i64 a3, .int .i64 a4, .int .i64 a5] 38) = W0 at *
  have hc0 := fun j => cell_of_row W0 w.heap.size j _ _ _ hrw
  have hb := hb.drew
  go_region_held3 (fun w' => w'.cell? ⟨w.heap.size, 0, none⟩ = some (.int .i64 (D : Int)) ∧ w'.cell? ⟨w.heap.size, 1, none⟩ = some (.int .u64 (T : Int)) ∧ w'.cell? ⟨w.heap.size, 2, none⟩ = some (.int .i64 (S : Int)) ∧ w'.cell? ⟨w.heap.size, 3, none⟩ = some (.int .i64 (K : Int)) ∧ w'.cell? ⟨w.heap.size, 4, none⟩ = some (.int .i64 a0) ∧ w'.cell? ⟨w.heap.size, 5, none⟩ = some (.int .i64 a1) ∧ w'.cell? ⟨w.heap.size, 6, none⟩ = some (.int .i64 a2) ∧ w'.cell? ⟨w.heap.size, 7, none⟩ = some (.int .i64 a3) ∧ w'.cell? ⟨w.heap.size, 8, none⟩ = some (.int .i64 a4) ∧ w'.cell? ⟨w.heap.size, 9, none⟩ = some (.int .i64 a5)) (first | exact ⟨cell_of_row _ _ 0 _ _ _ hrw, cell_of_row _ _ 1 _ _ _ hrw, cell_of_row _ _ 2 _ _ _ hrw, cell_of_row _ _ 3 _ _ _ hrw, cell_of_row _ _ 4 _ _ _ hrw, cell_of_row _ _ 5 _ _ _ hrw, cell_of_row _ _ 6 _ _ _ hrw, cell_of_row _ _ 7 _ _ _ hrw, cell_of_row _ _ 8 _ _ _ hrw, cell_of_row _ _ 9 _ _ _ hrw⟩ | go_keep) (first
    | (go_at_call 88; refine (put14_any w.heap.size _ _ K (by omega) 1 (by decide) hK hq2 _ hb.size ho2).mono ?_; rintro e w3 ⟨u3, rfl, ho3, hg3⟩; rw [hL3] at ho3; have hrw := row_put ho2 hg3 hrw (by decide); have hb := below_put hb hb.size ho2 hg3; obtain ⟨q3, c3, rfl⟩ := own_form ho3)
    | (go_at_call 88; refine (put14_any w.heap.size _ _ D (by omega) 4 (by decide) hD hq1 _ hb.size ho1).mono ?_; rintro e w2 ⟨u2, rfl, ho2, hg2⟩; rw [hL2] at ho2; have hrw := row_put ho1 hg2 hrw (by decide); have hb := below_put hb hb.size ho1 hg2; obtain ⟨q2, c2, rfl⟩ := own_form ho2)
    | (go_at_call 89; refine (HKEY.out _).mono ?_; rintro e w1 ⟨u1, rfl, ho1', hbk⟩; have ho1 := own_mono ho1' hb.size; have hrw : w1.heap[w.heap.size]? = _ := (hbk.block w.heap.size (by exact block_lt hrw)).trans hrw; have hb := hb.trans (hbk.mono hb.size); obtain ⟨q1, c1, rfl⟩ := own_form ho1))
  have HF := Lib.hid hb
  have HO := Lib.hid ho3
  have hcF := fun j => cell_of_row w3 w.heap.size j _ _ _ hrw
  clear hb ho1 ho2 ho3 hg2 hg3 hrw hc0
  have HAM := Lib.hid (fun W => rAmounts_any (D : Int) (T : Int) (S : Int) (K : Int) a0 a1 a2 a3 a4 a5 W)
  go_wp2_with fail
  refine (HAM.out _).mono ?_
  rintro e w4 ⟨ba, hba, rfl, hra, hb4⟩
  have HO4 := Lib.hid (own_below HO.out hb4)
  have HF4 := Lib.hid (HF.out.trans (hb4.mono HF.out.size))
  have HRA := Lib.hid hra
  clear hra hb4 hcF
  go_wp2_with fail
  obtain ⟨am, hamd⟩ : ∃ am, am = [a0, a1, a2, a3, a4, a5] := ⟨_, rfl⟩
  have HAD := Lib.hid hamd
  rw [← hamd] at HRA
  have hal : am.length = 6 := by rw [hamd]; rfl
  clear hamd
  have HAL := Lib.hid hal
  go_loopw [3, 5] (fun u i wr => ∃ j : Nat, j ≤ 6 ∧ i = .int .i64 j ∧ wr.ownsRow w.heap.size 5 1 u (L3 ++ encA (am.take j)).length (bytesV (L3 ++ encA (am.take j))) ∧ Below w.heap.size w wr ∧ wr.heap[ba]? = some (.cells (Post.amRow am) 2 (0, 0))) (fun _ i _ => 6 - (intOf i).toNat)
  case atStart => exact ⟨0, by omega, rfl, by rw [show L3 ++ encA (am.take 0) = L3 from by simp [encA]]; exact HO4.out, HF4.out, HRA.out⟩
  case round =>
    obtain ⟨j, hj, rfl, hown, hbw, hrow⟩ := hrel
    have HOW := Lib.hid hown
    have HBW := Lib.hid hbw
    have HROW := Lib.hid hrow
    obtain ⟨qj, cj, rfl⟩ := own_form hown
    clear hown hbw
    by_cases hlt : j < 6
    · have hcell : wr.cell? ⟨ba, j, none⟩ = some (.int .i64 (am.getD j 0)) := (cell_of_row wr ba j _ _ _ hrow).trans (Post.amRow_at (by omega))
      have htk : L3 ++ encA (am.take (j + 1)) = (L3 ++ encA (am.take j)) ++ Wire.be (u64 (am.getD j 0)) 8 := by
        have hx : am[j]? = some (am.getD j 0) := by rw [List.getD_eq_getElem?_getD, List.getElem?_eq_getElem (by omega)]; rfl
        rw [List.take_add_one, hx]
        unfold encA
        simp
      have hu := u64_eq (am.getD j 0)
      have hul := u64_lt (am.getD j 0)
      have hl8 : (L3 ++ encA (am.take j)).length ≤ 1000 := by
        have : (encA (am.take j)).length ≤ 48 := by
          have h2 : ∀ l : List Int, (encA l).length = 8 * l.length := by
            intro l
            induction l with
            | nil => rfl
            | cons a l ih => unfold encA at ih ⊢; rw [List.flatMap_cons, List.length_append, Wire.be_length, ih, List.length_cons]; omega
          rw [h2, List.length_take]; omega
        rw [List.length_append, HQ3.out]; omega
      generalize L3 ++ encA (am.take j) = LJ at *
      generalize am.getD j 0 = z at *
      generalize u64 z = Z at *
      have HTK := Lib.hid htk
      generalize hnn : LJ.length = nn at *
      have HNN := Lib.hid hnn
      clear htk hrow hnn
      have HP5 := Lib.hid (put14_any w.heap.size (.slice qj nn cj) LJ Z hul 8 (by decide) hul (by rw [HNN.out]; exact hl8) wr HBW.out.size (by rw [HNN.out]; exact HOW.out))
      generalize hn5 : (LJ ++ Wire.be Z 8).length = n5 at *
      have HN5 := Lib.hid hn5
      clear hn5
      go_wp2_with fail
      refine HP5.out.mono ?_
      rintro e w5 ⟨u5, rfl, ho5, hg5⟩
      have HO5 := Lib.hid ho5
      have HB5 := Lib.hid (below_put HBW.out HBW.out.size HOW.out hg5)
      have HR5 := Lib.hid (row_put HOW.out hg5 HROW.out (by decide))
      obtain ⟨q5, c5, rfl⟩ := own_form ho5
      clear ho5 hg5
      go_wp2
      go_roundw
      case rel => exact ⟨j + 1, by omega, by go_num, by rw [HTK.out, HN5.out]; exact HO5.out, HB5.out, HR5.out⟩
      case measure => simp [intOf]; omega
    · obtain rfl : j = 6 := by omega
      have hall : am.take 6 = am := List.take_of_length_le (by omega)
      have HFN : Hid (wr.ownsRow w.heap.size 5 1 (.slice qj (L3 ++ encA (am.take 6)).length cj) (L3 ++ encA [a0, a1, a2, a3, a4, a5]).length (bytesV (L3 ++ encA [a0, a1, a2, a3, a4, a5]))) := Lib.hid (by
        have h := HOW.out
        rw [← HAD.out]
        rw [hall] at h ⊢
        exact h)
      go_wp2
      go_ret
      exact ⟨_, rfl, HFN.out, HBW.out⟩
end Go.Proofs.Ytolfekbhlfjniaa

set_option linter.unusedVariables false
set_option linter.unusedSimpArgs false
namespace Go.Proofs.Ytolfekbhlfjniaa
open Go.RowKit

theorem rBytesP (x : Pst) (hw : x.wf) (hm : x.may = true) (w : World) :
    Calls Try.prog 61 #[.agg #[.int .i64 x.d, .int .u64 x.t, .int .i64 x.s, .int .i64 x.k, .int .i64 x.a0, .int .i64 x.a1, .int .i64 x.a2, .int .i64 x.a3, .int .i64 x.a4, .int .i64 x.a5]] w fun e w' => ∃ u, e = .returned u ∧ w'.ownsRow w.heap.size 5 1 u (encP x).length (bytesV (encP x)) ∧ Below w.heap.size w w' := by
  obtain ⟨hk, hd, hs⟩ := may_in hm
  have ht := in_u64 hw.2.1
  obtain ⟨d, t, s, k, a0, a1, a2, a3, a4, a5⟩ := x
  simp only at hk hd hs ht ⊢
  obtain ⟨D, rfl⟩ := Int.eq_ofNat_of_zero_le hd.1
  obtain ⟨T, rfl⟩ := Int.eq_ofNat_of_zero_le ht.1
  obtain ⟨S, rfl⟩ := Int.eq_ofNat_of_zero_le (show 0 ≤ s by omega)
  obtain ⟨K, rfl⟩ := Int.eq_ofNat_of_zero_le (show 0 ≤ k by omega)
  have h := rBytes14_any a0 a1 a2 a3 a4 a5 D T S K (by omega) (by omega) (by omega) (by omega) w
  have e : encP ⟨(D : Int), (T : Int), (S : Int), (K : Int), a0, a1, a2, a3, a4, a5⟩ = (((Wire.be T 8 ++ Wire.be S 2) ++ Wire.be D 4) ++ Wire.be K 1) ++ encA [a0, a1, a2, a3, a4, a5] := by
    unfold encP encH Pst.am
    simp only
    rw [u64_nat T (by omega), u64_nat S (by omega), u64_nat D (by omega), u64_nat K (by omega)]
  rw [e]
  exact h

set_option maxRecDepth 4000 in
set_option maxHeartbeats 1000000 in
theorem put17_any (base : Nat) (v : Value) (L : List UInt8) (N : Nat) (hN : N < 18446744073709551616) (s : Nat) (hs : s = 1 ∨ s = 2 ∨ s = 4 ∨ s = 8) (hfit : N < 256 ^ s) (hL : L.length ≤ 1000) (w : World) (hb : base ≤ w.heap.size) (ho : w.ownsRow base 5 1 v L.length (bytesV L)) :
    Calls Try.prog 60 #[v, .int .u64 (N : Int), .int .i64 (s : Int)] w fun e w' => ∃ u, e = .returned u ∧ w'.ownsRow base 5 1 u (L ++ Wire.be N s).length (bytesV (L ++ Wire.be N s)) ∧ Below base w w' := by
  have HNU := Lib.hid (rNumber_any N hN (s : Int) w)
  have hp : pNum N (s : Int) = some (Wire.be N s) := by
    unfold pNum
    rw [if_pos ⟨by rcases hs with rfl | rfl | rfl | rfl <;> rfl, by rw [Int.toNat_natCast]; exact hfit⟩, Int.toNat_natCast]
  rw [hp] at HNU
  have HLB := Lib.hid (Wire.be_length N s)
  have HO := Lib.hid ho
  have HLL := Lib.hid hL
  obtain ⟨q, c, rfl⟩ := own_form ho
  clear hp hfit ho hL
  rw [show pGet (some (Wire.be N s)) = Wire.be N s from rfl, show (some (Wire.be N s)).isSome = true from rfl] at HNU
  generalize Wire.be N s = B at *
  generalize hLn : L.length = nl at *
  have HLN := Lib.hid hLn
  clear hLn
  go_enter Try.func60, Try.ntmps60
  go_wp2_with fail
  refine HNU.out.mono ?_
  rintro e w1 ⟨u, rfl, hown, hb1⟩
  have HOB := Lib.hid (BS.of_own hown)
  have HB := Lib.hid hb1
  have HO1 := Lib.hid (own_below HO.out hb1)
  obtain ⟨q1, c1, rfl⟩ := own_form hown
  clear hown hb1
  go_wp2_with (at_builtin; refine wpList_append_bytes rfl _ _ rfl base _ _ _ rfl HO1.out _ B rfl HOB.out ?c1 ?c2 ?_)
  case c1 => have := HLB.out; have := HLL.out; omega
  case c2 => have := HB.out.size; omega
  intro v2 w2 hown2 hg2 hn2 hat2
  have HG : Hid (Below base w w2) := Lib.hid ((HB.out.mono hb).grown hg2 (Nat.le_trans hb HB.out.size) (fun b hb => (recs_base HO1.out hb).1))
  have HO2 : Hid (w2.ownsRow base 5 1 v2 (L ++ B).length (bytesV (L ++ B))) := Lib.hid (by rw [List.length_append, bytesV_append, HLN.out]; exact hown2)
  obtain ⟨q2, c2, rfl⟩ := own_form hown2
  clear hown2 hg2 hn2 hat2
  go_wp2
  go_ret
  exact ⟨_, rfl, by rw [List.length_append, HLN.out]; have := HO2.out; rwa [List.length_append, HLN.out] at this, HG.out⟩

theorem put17_four (base : Nat) (v : Value) (L : List UInt8) (N : Nat) (hfit : N < 4294967296) (hL : L.length ≤ 1000) (w : World) (hb : base ≤ w.heap.size) (ho : w.ownsRow base 5 1 v L.length (bytesV L)) :
    Calls Try.prog 60 #[v, .int .u64 (N : Int), .int .i64 4] w fun e w' => ∃ u, e = .returned u ∧ w'.ownsRow base 5 1 u (L ++ Wire.be N 4).length (bytesV (L ++ Wire.be N 4)) ∧ Below base w w' :=
  put17_any base v L N (by omega) 4 (by decide) hfit hL w hb ho

set_option maxRecDepth 4000 in
set_option maxHeartbeats 4000000 in
theorem rBytesR_ok (a b : Int) (l : List Pst) (p : Option Addr) (n cap : Nat) (hn : n ≤ 1000) (m x0 x1 x2 x3 x4 x5 : Int) (hok : Rep.MayP a b l m [x0, x1, x2, x3, x4, x5]) (w : World) (hs : PS w (.slice p n cap) l) :
    Calls Try.prog 24 #[.agg #[.int .i64 a, .int .i64 b, (.slice p n cap), .int .i64 m, .int .i64 x0, .int .i64 x1, .int .i64 x2, .int .i64 x3, .int .i64 x4, .int .i64 x5]] w fun e w' => ∃ u, e = .returned u ∧ w'.ownsRow w.heap.size 5 1 u (Rep.encR a b l).length (bytesV (Rep.encR a b l)) ∧ Below w.heap.size w w' := by
  have hd := hok.1
  unfold Rep.days at hd
  simp only [Bool.and_eq_true, decide_eq_true_eq] at hd
  obtain ⟨A, rfl⟩ := Int.eq_ofNat_of_zero_le (show 0 ≤ a by omega)
  obtain ⟨B, rfl⟩ := Int.eq_ofNat_of_zero_le (show 0 ≤ b by omega)
  have hA : A < 4294967296 := by omega
  have hB : B < 4294967296 := by omega
  have hN : n < 4294967296 := by omega
  have zA : IntKind.u64.wrap (A : Int) = (A : Int) := by rw [IntKind.wrap_u64]; omega
  have zB : IntKind.u64.wrap (B : Int) = (B : Int) := by rw [IntKind.wrap_u64]; omega
  have zN : IntKind.u64.wrap (n : Int) = (n : Int) := by rw [IntKind.wrap_u64]; omega
  have HPS := Lib.hid hs; have HWF := Lib.hid (ps_wf hs)
  have hln := ps_len hs
  have HN := Lib.hid hln.1
  have hn1 := hln.2.1
  have hn2 := hln.2.2
  have HALL := Lib.hid hok.2.1.1
  have HE : Hid (Rep.encR (A : Int) (B : Int) l = (((Wire.be A 4 ++ Wire.be B 4) ++ Wire.be n 4) ++ l.flatMap encP)) := Lib.hid (by
    unfold Rep.encR Rep.headR
    rw [u64_nat A (by omega), u64_nat B (by omega), hln.1])
  have HB0 := Lib.hid ((Below.refl w.heap.size w).alloc (Nat.le_refl _) (.cells #[.int .i64 (A : Int), .int .i64 (B : Int), (.slice p n cap), .int .i64 m, .int .i64 x0, .int .i64 x1, .int .i64 x2, .int .i64 x3, .int .i64 x4, .int .i64 x5] 27 (0, 0)))
  have hr0 := new_row w (.cells #[.int .i64 (A : Int), .int .i64 (B : Int), (.slice p n cap), .int .i64 m, .int .i64 x0, .int .i64 x1, .int .i64 x2, .int .i64 x3, .int .i64 x4, .int .i64 x5] 27 (0, 0)) _ rfl
  have HR0 := Lib.hid hr0
  have d0 : (w.alloc (.cells #[.int .i64 (A : Int), .int .i64 (B : Int), (.slice p n cap), .int .i64 m, .int .i64 x0, .int .i64 x1, .int .i64 x2, .int .i64 x3, .int .i64 x4, .int .i64 x5] 27 (0, 0))).cell? ⟨w.heap.size, 0, none⟩ = some (.int .i64 (A : Int)) := cell_of_row _ _ 0 _ _ _ hr0
  have d1 : (w.alloc (.cells #[.int .i64 (A : Int), .int .i64 (B : Int), (.slice p n cap), .int .i64 m, .int .i64 x0, .int .i64 x1, .int .i64 x2, .int .i64 x3, .int .i64 x4, .int .i64 x5] 27 (0, 0))).cell? ⟨w.heap.size, 1, none⟩ = some (.int .i64 (B : Int)) := cell_of_row _ _ 1 _ _ _ hr0
  have d2 : (w.alloc (.cells #[.int .i64 (A : Int), .int .i64 (B : Int), (.slice p n cap), .int .i64 m, .int .i64 x0, .int .i64 x1, .int .i64 x2, .int .i64 x3, .int .i64 x4, .int .i64 x5] 27 (0, 0))).cell? ⟨w.heap.size, 2, none⟩ = some (.slice p n cap) := cell_of_row _ _ 2 _ _ _ hr0
  have hle : w.heap.size < (w.alloc (.cells #[.int .i64 (A : Int), .int .i64 (B : Int), (.slice p n cap), .int .i64 m, .int .i64 x0, .int .i64 x1, .int .i64 x2, .int .i64 x3, .int .i64 x4, .int .i64 x5] 27 (0, 0))).heap.size := by simp
  clear hs hok hd hln hr0
  go_enter Try.func24, Try.ntmps24
  go_upto_region 1 with fail
  generalize w.alloc (.cells #[.int .i64 (A : Int), .int .i64 (B : Int), (.slice p n cap), .int .i64 m, .int .i64 x0, .int .i64 x1, .int .i64 x2, .int .i64 x3, .int .i64 x4, .int .i64 x5] 27 (0, 0)) = W0 at *
  have hb1 : Below W0.heap.size W0 W0.drew := (Below.refl _ _).drew
  have hrw := HR0.out
  go_region_held3 (fun w' => w'.cell? ⟨w.heap.size, 0, none⟩ = some (.int .i64 (A : Int)) ∧ w'.cell? ⟨w.heap.size, 1, none⟩ = some (.int .i64 (B : Int)) ∧ w'.cell? ⟨w.heap.size, 2, none⟩ = some (.slice p n cap)) (first | with_reducible exact ⟨d0, d1, d2⟩ | go_keep) (first
    | (go_at_call 60; refine (put17_four W0.heap.size _ (([] ++ Wire.be A 4) ++ Wire.be B 4) n hN (by simp only [List.length_append, Wire.be_length, List.length_nil]; decide) _ hb1.size ho2).mono ?_; rintro e w2 ⟨u, rfl, ho3, hb2⟩; have hb1 := hb1.trans hb2; have d0 : w2.cell? ⟨w.heap.size, 0, none⟩ = some (.int .i64 (A : Int)) := (hb1.cell (p := ⟨w.heap.size, 0, none⟩) hle).trans (cell_of_row _ _ 0 _ _ _ HR0.out); have d1 : w2.cell? ⟨w.heap.size, 1, none⟩ = some (.int .i64 (B : Int)) := (hb1.cell (p := ⟨w.heap.size, 1, none⟩) hle).trans (cell_of_row _ _ 1 _ _ _ HR0.out); have d2 : w2.cell? ⟨w.heap.size, 2, none⟩ = some (.slice p n cap) := (hb1.cell (p := ⟨w.heap.size, 2, none⟩) hle).trans (cell_of_row _ _ 2 _ _ _ HR0.out); clear hb2; obtain ⟨q3, c3, rfl⟩ := own_form ho3)
    | (go_at_call 60; refine (put17_four W0.heap.size _ ([] ++ Wire.be A 4) B hB (by simp only [List.length_append, Wire.be_length, List.length_nil]; decide) _ hb1.size ho1).mono ?_; rintro e w2 ⟨u, rfl, ho2, hb2⟩; have hb1 := hb1.trans hb2; have d0 : w2.cell? ⟨w.heap.size, 0, none⟩ = some (.int .i64 (A : Int)) := (hb1.cell (p := ⟨w.heap.size, 0, none⟩) hle).trans (cell_of_row _ _ 0 _ _ _ HR0.out); have d1 : w2.cell? ⟨w.heap.size, 1, none⟩ = some (.int .i64 (B : Int)) := (hb1.cell (p := ⟨w.heap.size, 1, none⟩) hle).trans (cell_of_row _ _ 1 _ _ _ HR0.out); have d2 : w2.cell? ⟨w.heap.size, 2, none⟩ = some (.slice p n cap) := (hb1.cell (p := ⟨w.heap.size, 2, none⟩) hle).trans (cell_of_row _ _ 2 _ _ _ HR0.out); clear hb2; obtain ⟨q2, c2, rfl⟩ := own_form ho2)
    | (go_at_call 60; refine (put17_four W0.heap.size (.slice none 0 0) [] A hA (by simp only [List.length_append, Wire.be_length, List.length_nil]; decide) _ hb1.size (World.ownsRow_nil _ _ _ _)).mono ?_; rintro e w2 ⟨u, rfl, ho1, hb2⟩; have hb1 := hb1.trans hb2; have d0 : w2.cell? ⟨w.heap.size, 0, none⟩ = some (.int .i64 (A : Int)) := (hb1.cell (p := ⟨w.heap.size, 0, none⟩) hle).trans (cell_of_row _ _ 0 _ _ _ HR0.out); have d1 : w2.cell? ⟨w.heap.size, 1, none⟩ = some (.int .i64 (B : Int)) := (hb1.cell (p := ⟨w.heap.size, 1, none⟩) hle).trans (cell_of_row _ _ 1 _ _ _ HR0.out); have d2 : w2.cell? ⟨w.heap.size, 2, none⟩ = some (.slice p n cap) := (hb1.cell (p := ⟨w.heap.size, 2, none⟩) hle).trans (cell_of_row _ _ 2 _ _ _ HR0.out); clear hb2; obtain ⟨q1, c1, rfl⟩ := own_form ho1))
  have HO : Hid (w2.ownsRow W0.heap.size 5 1 (.slice q3 12 c3) (12 + 63 * 0) (bytesV (((Wire.be A 4 ++ Wire.be B 4) ++ Wire.be n 4) ++ (l.take 0).flatMap encP))) := Lib.hid (by
    have h := ho3
    simp only [List.nil_append] at h
    rw [show ((Wire.be A 4 ++ Wire.be B 4) ++ Wire.be n 4).length = 12 from by simp only [List.length_append, Wire.be_length]] at h
    rw [show (l.take 0).flatMap encP = [] from by simp, List.append_nil]
    exact h)
  have HB := Lib.hid hb1
  have HLE := Lib.hid hle
  clear ho1 ho2 ho3 hb1 d0 d1 d2 hle hrw
  simp only [Wire.be_length, Nat.reduceAdd]
  generalize ((Wire.be A 4 ++ Wire.be B 4) ++ Wire.be n 4) = H at *
  go_wp2
  go_loopw [3, 4] (fun v i wr => ∃ j : Nat, j ≤ n ∧ i = .int .i64 j ∧ wr.ownsRow W0.heap.size 5 1 v (12 + 63 * j) (bytesV (H ++ (l.take j).flatMap encP)) ∧ Below W0.heap.size W0 wr) (fun _ i _ => n - (intOf i).toNat)
  case atStart => exact ⟨0, Nat.zero_le _, rfl, HO.out, HB.out⟩
  case round =>
    obtain ⟨j, hj, rfl, hown, hbw⟩ := hrel
    have HOJ := Lib.hid hown
    have HBJ := Lib.hid hbw
    obtain ⟨qj, cj, rfl⟩ := own_form hown
    have HBW : Hid (Below w.heap.size w wr) := Lib.hid (HB0.out.trans (hbw.mono HB0.out.size))
    have hrow := (hbw.block w.heap.size HLE.out).trans HR0.out
    have hcr := fun j => cell_of_row wr w.heap.size j _ _ _ hrow
    obtain ⟨len, hlen⟩ : ∃ len, 12 + 63 * j = len := ⟨_, rfl⟩
    have HLEN := Lib.hid hlen
    rw [hlen] at HOJ ⊢
    by_cases hlt : j < n
    · obtain ⟨x, hx⟩ : ∃ x, l[j]? = some x := ⟨_, List.getElem?_eq_getElem (by have := HN.out; omega)⟩
      obtain ⟨bb, o, rfl, hbl, hat⟩ := ps_at (HPS.out.below HBW.out) hx
      have hin := List.mem_of_getElem? hx
      have HPB := Lib.hid (fun W => rBytesP x (HWF.out x hin) (HALL.out x hin) W)
      have HTK : Hid (H ++ (l.take (j + 1)).flatMap encP = (H ++ (l.take j).flatMap encP) ++ encP x) := Lib.hid (by
        rw [List.take_add_one, hx, List.flatMap_append, List.append_assoc]
        simp)
      have HLX := Lib.hid (encP_length x)
      unfold PAt at hat
      obtain ⟨c0, c1, c2, c3, c4, c5, c6, c7, c8, c9⟩ := hat
      clear hx hbw hown hin hrow hlen
      go_wp2_with fail
      refine (HPB.out _).mono ?_
      rintro e w3 ⟨u, rfl, hu, hb3⟩
      have HU := Lib.hid (BS.of_own hu)
      have HOJ3 := Lib.hid (own_below HOJ.out hb3)
      have HBJ3 := Lib.hid (HBJ.out.trans (hb3.mono HBJ.out.size))
      obtain ⟨qu, cu, rfl⟩ := own_form hu
      clear hu hb3
      go_wp2_with (at_builtin; refine wpList_append_bytes rfl _ _ rfl W0.heap.size _ _ _ rfl HOJ3.out _ (encP x) rfl HU.out ?c1 ?c2 ?_)
      case c1 => have := HLX.out; have := HLEN.out; omega
      case c2 => have := HBJ3.out.size; omega
      intro v2 w4 hown2 hg2 hn2 hat2
      have HB4 := Lib.hid (HBJ3.out.grown hg2 HBJ3.out.size (fun b hb => (recs_base HOJ3.out hb).1))
      have HO4 : Hid (w4.ownsRow W0.heap.size 5 1 v2 (12 + 63 * (j + 1)) (bytesV (H ++ (l.take (j + 1)).flatMap encP))) := Lib.hid (by
        rw [HTK.out, bytesV_append, show 12 + 63 * (j + 1) = len + (encP x).length from by have := HLEN.out; have := HLX.out; omega]
        exact hown2)
      clear hown2 hg2 hn2 hat2 hcr c0 c1 c2 c3 c4 c5 c6 c7 c8 c9
      go_wp2
      go_roundw
      case rel => exact ⟨j + 1, by omega, by go_num, HO4.out, HB4.out⟩
      case measure => simp [intOf]; omega
    · obtain rfl : j = n := by omega
      have HFO : Hid (wr.ownsRow w.heap.size 5 1 (.slice qj len cj) (Rep.encR (A : Int) (B : Int) l).length (bytesV (Rep.encR (A : Int) (B : Int) l))) := Lib.hid (by
        have h := HOJ.out
        rw [List.take_of_length_le (by have := HN.out; omega), ← HE.out] at h
        rw [Rep.encR_length, ← HN.out, HLEN.out]
        exact own_mono h (Nat.le_of_lt HLE.out))
      clear hown hbw hrow hlen
      go_wp2
      go_ret
      exact ⟨_, rfl, HFO.out, HBW.out⟩
end Go.Proofs.Ytolfekbhlfjniaa
