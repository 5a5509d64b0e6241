/- The plain law of last statuses: a change keeps a coupon that came to one; a history comes to one at most once for a coupon. -/
import Derived.Test.YtmadkfahkbdibaaTrK
set_option linter.unusedVariables false
set_option linter.unusedSimpArgs false
namespace Go.Proofs.Ytmadkfahkbdibaa
open Go.RowKit

namespace Tkt
theorem lead_last {a b : Int} (h : leadsB a b = true) : lastB a = false := by
  unfold leadsB at h
  unfold lastB
  simp only [Bool.and_eq_true, decide_eq_true_eq] at h
  by_cases h0 : bitsI a = 0
  · rw [h0] at h
    simp at h
  · simp [h0]
/-- what a step may do to a ticket: coupons that came to a last status stay -/
structure Keeps (t u : Tk) : Prop where
  len : u.cs.length = t.cs.length
  at_ : ∀ (j : Nat) (z : Cpn), t.cs[j]? = some z → lastB z.st = true → u.cs[j]? = some z
theorem Keeps.rfl {t : Tk} : Keeps t t := ⟨Eq.refl _, fun _ _ h _ => h⟩
theorem keeps_chg {t : Tk} {k : Nat} {y : Cpn} {on tq wi : Int} (d : Done t k y on tq wi) : Keeps t (chg t ((k : Int) + 1) on tq wi) := by
  rw [chg_ok d.at_]
  refine ⟨List.length_set, fun j z hz hl => ?_⟩
  by_cases hj : k = j
  · subst hj
    rw [d.at_] at hz
    injection hz with hz
    subst hz
    rw [lead_last d.leads] at hl
    cases hl
  · simp only
    rw [List.getElem?_set_ne hj]
    exact hz
def nowL (n : Nat) (iss : Int) (hs : List Evt) : List Int := match toldE 0 n iss hs with | some s => s.now | none => []
/-- how often a coupon came to a last status -/
def endsI (n : Nat) (iss : Int) (k : Nat) (hs : List Evt) : Int := if lastB ((nowL n iss hs).getD k 0) = true then 1 else 0
theorem nowL_of {n : Nat} {iss : Int} {hs : List Evt} {s : Told} (h : toldE 0 n iss hs = some s) : nowL n iss hs = s.now := by
  unfold nowL
  rw [h]
theorem ends_nil (n : Nat) (iss : Int) (k : Nat) : endsI n iss k [] = 0 := by
  unfold endsI
  rw [nowL_of (s := told0 n iss) (Eq.refl _)]
  refine if_neg ?_
  unfold told0
  rw [List.getD_eq_getElem?_getD, List.getElem?_replicate]
  split <;> decide
theorem told_step {u : Int} {n : Nat} {iss : Int} {hs : List Evt} {s : Told} (h : toldE u n iss hs = some s) {i : Nat} {x : Evt} (hx : hs[i]? = some x) : ∃ si, toldE u n iss (hs.take i) = some si ∧ evOk si x = true ∧ toldE u n iss (hs.take (i + 1)) = some (evDo u si x) := by
  have hi : i < hs.length := (List.getElem?_eq_some_iff.1 hx).1
  have hxe : hs[i] = x := (List.getElem?_eq_some_iff.1 hx).2
  have ht : hs.take (i + 1) = hs.take i ++ [x] := by rw [List.take_succ_eq_append_getElem hi, hxe]
  cases h1 : toldE u n iss (hs.take (i + 1)) with
  | none => rw [toldE_none _ h1] at h; cases h
  | some s1 =>
    rw [ht, toldE_snoc] at h1
    obtain ⟨si, h0, hk, rfl⟩ := stepE_len h1
    exact ⟨si, h0, hk, Eq.refl _⟩
theorem ends_step {n : Nat} {iss : Int} {hs : List Evt} {s : Told} (h : toldE 0 n iss hs = some s) {i k : Nat} {x : Evt} (hx : hs[i]? = some x) :
    (x.co = (k : Int) + 1 → endsI n iss k (hs.take i) = 0 ∧ endsI n iss k (hs.take (i + 1)) = if lastB x.to = true then 1 else 0) ∧ (x.co ≠ (k : Int) + 1 → endsI n iss k (hs.take (i + 1)) = endsI n iss k (hs.take i)) := by
  obtain ⟨si, h0, hk, h1⟩ := told_step h hx
  unfold endsI
  rw [nowL_of h0, nowL_of h1]
  unfold evOk at hk
  simp only [Bool.and_eq_true, decide_eq_true_eq] at hk
  obtain ⟨⟨⟨⟨⟨c1, c2⟩, -⟩, -⟩, c3⟩, c4⟩ := hk
  refine ⟨fun hc => ?_, fun hc => ?_⟩
  · have e : x.co.toNat - 1 = k := by omega
    rw [e] at c3
    refine ⟨?_, ?_⟩
    · rw [← c3, lead_last c4]; rfl
    · have : (evDo 0 si x).now.getD k 0 = x.to := by
        simp only [evDo, e]
        rw [List.getD_eq_getElem?_getD, List.getElem?_set_self (by omega)]; rfl
      rw [this]
  · have : (evDo 0 si x).now.getD k 0 = si.now.getD k 0 := by
      simp only [evDo]
      rw [List.getD_eq_getElem?_getD, List.getElem?_set_ne (by omega), ← List.getD_eq_getElem?_getD]
    rw [this]
theorem ends_all {t : Tk} (hm : mayB t = true) {k : Nat} {z : Cpn} (hz : t.cs[k]? = some z) : endsI t.cs.length t.iss k t.hs = if lastB z.st = true then 1 else 0 := by
  unfold mayB at hm
  simp only [Bool.and_eq_true] at hm
  obtain ⟨s, hs, hn⟩ := hist_some hm.2
  have : (nowL t.cs.length t.iss t.hs).getD k 0 = z.st := by
    rw [nowL_of hs, hn, List.getD_eq_getElem?_getD, List.getElem?_map, hz]
    rfl
  unfold endsI
  rw [this]
theorem told_may {t : Tk} (hm : mayB t = true) : ∃ s, toldE 0 t.cs.length t.iss t.hs = some s := by
  unfold mayB at hm
  simp only [Bool.and_eq_true] at hm
  obtain ⟨s, hs, -⟩ := hist_some hm.2
  exact ⟨s, hs⟩
end Tkt
end Go.Proofs.Ytmadkfahkbdibaa
