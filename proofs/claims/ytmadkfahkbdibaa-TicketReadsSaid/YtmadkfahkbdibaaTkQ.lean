/- Plain words for a ticket's change; own rows written in place. -/
import Derived.Test.YtmadkfahkbdibaaTkO
set_option linter.unusedVariables false
set_option linter.unusedSimpArgs false
namespace Go.Proofs.Ytmadkfahkbdibaa
open Go.RowKit

namespace Tkt
def zTk : Tk := ⟨0, ⟨#[]⟩, 0, [], [], 0, 0, 0, 0, 0, []⟩
def lastD (t : Tk) : Int := match t.hs.getLast? with | none => t.iss | some e => e.dy
def chgC (c : Cpn) (tq wi : Int) : Cpn := ⟨c.fl, c.dy, c.va, tq, if tq = 9 then wi else 0, if tq = 5 then wi else 0⟩
/-- a change's error -/
def errC (t : Tk) (co on tq wi : Int) : Int :=
  if mayB t = true ∧ 1 ≤ co ∧ co ≤ t.cs.length ∧ withB t.num tq wi = true then
    match t.cs[co.toNat - 1]? with
    | none => 2
    | some c => if leadsB c.st tq = true then (if lastD t ≤ on ∧ on ≤ 1000000 then (if t.hs.length = 60 then 8 else 0) else 15) else 9
  else 2
def chg (t : Tk) (co on tq wi : Int) : Tk :=
  match t.cs[co.toNat - 1]? with
  | none => t
  | some c => ⟨t.num, t.loc, t.iss, t.cs.set (co.toNat - 1) (chgC c tq wi), t.ts, t.prev, t.org, t.fst, t.vou, t.posts, t.hs ++ [⟨on, co, c.st, tq⟩]⟩
def chgT (t : Tk) (co on tq wi : Int) : Tk := if errC t co on tq wi = 0 then chg t co on tq wi else zTk
theorem mayB_lens {t : Tk} (h : mayB t = true) : 1 ≤ t.cs.length ∧ t.cs.length ≤ 4 ∧ t.ts.length ≤ 4 ∧ t.hs.length ≤ 60 := by
  unfold mayB lensB at h
  simp only [Bool.and_eq_true, decide_eq_true_eq] at h
  omega
theorem errC_ok {t : Tk} {k : Nat} {y : Cpn} {on tq wi : Int} (hm : mayB t = true) (hy : t.cs[k]? = some y) (hf : withB t.num tq wi = true) :
    errC t ((k : Int) + 1) on tq wi = if leadsB y.st tq = true then (if lastD t ≤ on ∧ on ≤ 1000000 then (if t.hs.length = 60 then 8 else 0) else 15) else 9 := by
  have hk : k < t.cs.length := (List.getElem?_eq_some_iff.1 hy).1
  unfold errC
  rw [if_pos ⟨hm, by omega, by omega, hf⟩, show ((k : Int) + 1).toNat - 1 = k by omega, hy]
theorem chg_ok {t : Tk} {k : Nat} {y : Cpn} {on tq wi : Int} (hy : t.cs[k]? = some y) :
    chg t ((k : Int) + 1) on tq wi = ⟨t.num, t.loc, t.iss, t.cs.set k (chgC y tq wi), t.ts, t.prev, t.org, t.fst, t.vou, t.posts, t.hs ++ [⟨on, (k : Int) + 1, y.st, tq⟩]⟩ := by
  unfold chg
  rw [show ((k : Int) + 1).toNat - 1 = k by omega, hy]
end Tkt

section
variable {α : Type} {enc : α → List Value} {n : Nat}
theorem encL_setT (hn : ∀ x, (enc x).length = n) {j : Nat} {u : Value} {x x' : α} (hj : j < n) (he : enc x' = (enc x).set j u) : ∀ {l : List α} {i : Nat}, l[i]? = some x → (encL enc l).set (i * n + j) u = encL enc (l.set i x') := by
  intro l
  induction l with
  | nil => intro i h; cases h
  | cons y l ih =>
    intro i h
    cases i with
    | zero =>
      rw [List.getElem?_cons_zero] at h
      injection h with h
      subst h
      rw [List.set_cons_zero, encL, encL, List.flatMap_cons, List.flatMap_cons, he, Nat.zero_mul, Nat.zero_add, List.set_append_left _ _ (by rw [hn]; exact hj)]
    | succ i =>
      rw [List.getElem?_cons_succ] at h
      rw [List.set_cons_succ, encL, encL, List.flatMap_cons, List.flatMap_cons, List.set_append_right _ _ (by rw [hn, Nat.succ_mul]; omega)]
      have e1 : (i + 1) * n + j - (enc y).length = i * n + j := by rw [hn, Nat.succ_mul]; omega
      rw [e1]
      exact congrArg _ (ih h)
theorem own_cellT (hn : ∀ x, (enc x).length = n) {w : World} {base e m b cap i j : Nat} {l : List α} {x : α} (h : w.ownsRow base e n (.slice (some ⟨b, 0, none⟩) m cap) m (encL enc l)) (hx : l[i]? = some x) (hj : j < n) :
    w.cell? ⟨b, i * n + j, none⟩ = (enc x)[j]? ∧ w.frozen? ⟨b, i * n + j, none⟩ = false := by
  obtain ⟨hlen, hor⟩ := h
  rcases hor with ⟨hh, -⟩ | ⟨g, c2, cur, e1, hg, hh, hnc, hcm, hcs, htk⟩
  · cases hh
  · injection e1 with e1 e2 e3
    injection e1 with e1
    injection e1 with e1
    subst e1
    have hi : i < l.length := (List.getElem?_eq_some_iff.1 hx).1
    have hm : l.length = m := by
      rw [encL_length hn] at hlen
      exact Nat.eq_of_mul_eq_mul_right (by omega) hlen
    have hlt : i * n + j < m * n := by
      have : (i + 1) * n ≤ m * n := Nat.mul_le_mul_right n (by omega)
      rw [Nat.succ_mul] at this
      omega
    refine ⟨?_, ?_⟩
    · rw [cell_of_row _ _ _ _ _ _ hh, ← encL_at hn hx hj, ← htk, List.getElem?_take, if_pos hlt, Array.getElem?_toList]
    · exact frozen_of_row _ _ _ _ _ hh
theorem own_setCellT (hn : ∀ x, (enc x).length = n) {w : World} {base e m b cap i j : Nat} {l : List α} {x x' : α} {u : Value} (h : w.ownsRow base e n (.slice (some ⟨b, 0, none⟩) m cap) m (encL enc l)) (hx : l[i]? = some x) (hj : j < n) (he : enc x' = (enc x).set j u) :
    (w.setCell ⟨b, i * n + j, none⟩ u).ownsRow base e n (.slice (some ⟨b, 0, none⟩) m cap) m (encL enc (l.set i x')) := by
  obtain ⟨hlen, hor⟩ := h
  refine ⟨by rw [← encL_setT hn hj he hx, List.length_set, hlen], ?_⟩
  rcases hor with ⟨hh, -⟩ | ⟨g, c2, cur, e1, hg, hh, hnc, hcm, hcs, htk⟩
  · cases hh
  · injection e1 with e1 e2 e3
    injection e1 with e1
    injection e1 with e1
    subst e1; subst e3
    refine .inr ⟨b, cap, _, rfl, hg, heap_setCell_same _ _ _ _ _ _ hh, hnc, hcm, by simp [hcs], ?_⟩
    rw [← encL_setT hn hj he hx, ← htk, Array.toList_setIfInBounds, List.take_set]
end
end Go.Proofs.Ytmadkfahkbdibaa
