/- Plain law of NumberTells: what a changed digit does to a ticket number. -/
import Derived.Test.YtmofcaclohnmmaaNumF
set_option linter.unusedVariables false
namespace Go.Proofs.Ytmofcaclohnmmaa.Tell
open Dec Num

theorem val_mid (l1 l2 : List UInt8) (x : UInt8) : val (l1 ++ x :: l2) = (10 * val l1 + dval x) * 10 ^ l2.length + val l2 := by
  have h := val_append (l1 ++ [x]) l2
  rw [val_snoc] at h
  rw [← h]; simp
theorem pow_mod (A B k : Nat) (h : A * 10 ^ k % 7 = B * 10 ^ k % 7) : A % 7 = B % 7 := by
  induction k with
  | zero => simpa using h
  | succ k ih =>
    apply ih
    rw [Nat.pow_succ, ← Nat.mul_assoc, ← Nat.mul_assoc] at h
    omega
theorem mod_pow (A B k : Nat) (h : A % 7 = B % 7) : A * 10 ^ k % 7 = B * 10 ^ k % 7 := by
  rw [Nat.mul_mod, h, ← Nat.mul_mod]

theorem check_iff (v : Nat) (h0 : 1000000000000 ≤ v) (h1 : v < 10000000000000) : check v = if v / 10 % 7 = v % 10 then 0 else 11 := by
  unfold check
  rw [if_neg (by omega)]
  by_cases h : v / 10 % 7 = v % 10
  · rw [if_pos h, if_pos (by omega)]
  · rw [if_neg h, if_neg (by omega)]

/-- of a text of 13 digits -/
theorem ofE_of (l : List UInt8) (hl : l.length = 13) (ha : l.all isDig = true) (a : UInt8) (h0 : l[0]? = some a) :
    ofE l = if a.toNat = 48 then 2 else if val l / 10 % 7 = val l % 10 then 0 else 11 := by
  rw [ofE_13 hl ha]
  obtain ⟨a', b, m, e, _, _, _, _, h1, h2⟩ := of13 l hl ha
  have : a' = a := by rw [e] at h0; simpa using h0
  subst this
  by_cases c : a'.toNat = 48
  · rw [if_pos c]; unfold check; rw [if_pos (by have := h2.2 c; omega)]
  · rw [if_neg c]
    exact check_iff _ (by rcases Nat.lt_or_ge (val l) 1000000000000 with h | h; exact absurd (h2.1 h) c; exact h) h1

theorem all_mid {l1 l2 : List UInt8} {x y : UInt8} (h : (l1 ++ x :: l2).all isDig = true) (hy : isDig y = true) : (l1 ++ y :: l2).all isDig = true ∧ isDig x = true := by
  simp at h ⊢
  exact ⟨⟨h.1, hy, h.2.2⟩, h.2.1⟩

theorem dm (Q d : Nat) (h : d ≤ 9) : (10 * Q + d) / 10 = Q ∧ (10 * Q + d) % 10 = d := by omega

/-- a digit ahead of the last one -/
theorem tell_mid (l1 l2 : List UInt8) (x y b : UInt8) (hl : (l1 ++ x :: (l2 ++ [b])).length = 13) (ha : (l1 ++ x :: (l2 ++ [b])).all isDig = true) (hy : isDig y = true)
    (h0 : ofE (l1 ++ x :: (l2 ++ [b])) = 0) :
    ofE (l1 ++ y :: (l2 ++ [b])) = if l1 = [] ∧ y.toNat = 48 then 2 else if dval x % 7 = dval y % 7 then 0 else 11 := by
  obtain ⟨ha', hx⟩ := all_mid ha hy
  have hl' : (l1 ++ y :: (l2 ++ [b])).length = 13 := by simp at hl ⊢; omega
  have v1 : val (l1 ++ x :: (l2 ++ [b])) = 10 * ((10 * val l1 + dval x) * 10 ^ l2.length + val l2) + dval b := by
    rw [show l1 ++ x :: (l2 ++ [b]) = (l1 ++ x :: l2) ++ [b] from by simp, val_snoc, val_mid]
  have v2 : val (l1 ++ y :: (l2 ++ [b])) = 10 * ((10 * val l1 + dval y) * 10 ^ l2.length + val l2) + dval b := by
    rw [show l1 ++ y :: (l2 ++ [b]) = (l1 ++ y :: l2) ++ [b] from by simp, val_snoc, val_mid]
  have hb : isDig b = true := by simp at ha; exact ha.2.2.2
  have db := dval_le hb
  have hP : ∀ c : Nat, (((10 * val l1 + dval x) * 10 ^ l2.length + val l2) % 7 = dval b) → ((((10 * val l1 + dval y) * 10 ^ l2.length + val l2) % 7 = dval b) ↔ dval x % 7 = dval y % 7) := by
    intro _ h
    constructor
    · intro h'
      have := pow_mod (10 * val l1 + dval x) (10 * val l1 + dval y) l2.length (by clear ha hl hl' h0 v1 v2; omega)
      omega
    · intro h'
      have := mod_pow (10 * val l1 + dval x) (10 * val l1 + dval y) l2.length (by omega)
      omega
  obtain ⟨a, ea⟩ : ∃ a, (l1 ++ x :: (l2 ++ [b]))[0]? = some a := ⟨_, List.getElem?_eq_getElem (by omega)⟩
  have e0 := ofE_of _ hl ha a ea
  rw [h0] at e0
  have hA : a.toNat ≠ 48 := by intro c; rw [if_pos c] at e0; omega
  rw [if_neg hA, v1] at e0
  have hB : ((10 * val l1 + dval x) * 10 ^ l2.length + val l2) % 7 = dval b := by
    obtain ⟨q1, q2⟩ := dm ((10 * val l1 + dval x) * 10 ^ l2.length + val l2) (dval b) db
    rw [q1, q2] at e0
    by_cases c : ((10 * val l1 + dval x) * 10 ^ l2.length + val l2) % 7 = dval b
    · exact c
    · rw [if_neg c] at e0; omega
  have hQ := hP 0 hB
  obtain ⟨a', ea'⟩ : ∃ a, (l1 ++ y :: (l2 ++ [b]))[0]? = some a := ⟨_, List.getElem?_eq_getElem (by omega)⟩
  have hA' : a'.toNat = 48 ↔ l1 = [] ∧ y.toNat = 48 := by
    cases l1 with
    | nil =>
      have : y = a' := by simpa using ea'
      subst this; simp
    | cons p l1 =>
      have e1 : p = a := by simpa using ea
      have e2 : p = a' := by simpa using ea'
      subst e1; subst e2
      simp [hA]
  obtain ⟨q1, q2⟩ := dm ((10 * val l1 + dval y) * 10 ^ l2.length + val l2) (dval b) db
  rw [ofE_of _ hl' ha' a' ea', v2, q1, q2]
  by_cases c1 : a'.toNat = 48
  · rw [if_pos c1, if_pos (hA'.1 c1)]
  · rw [if_neg c1, if_neg (fun h => c1 (hA'.2 h))]
    by_cases c2 : dval x % 7 = dval y % 7
    · rw [if_pos c2, if_pos (hQ.2 c2)]
    · rw [if_neg c2, if_neg (fun h => c2 (hQ.1 h))]

/-- the last digit -/
theorem tell_last (l1 : List UInt8) (x y : UInt8) (hl : (l1 ++ [x]).length = 13) (ha : (l1 ++ [x]).all isDig = true) (hy : isDig y = true)
    (h0 : ofE (l1 ++ [x]) = 0) : ofE (l1 ++ [y]) = if x = y then 0 else 11 := by
  by_cases hxy : x = y
  · subst hxy; rw [if_pos rfl, h0]
  · rw [if_neg hxy]
    obtain ⟨ha', hx⟩ := all_mid (l2 := []) ha hy
    have hl' : (l1 ++ [y]).length = 13 := by simp at hl ⊢; omega
    obtain ⟨a, ea⟩ : ∃ a, (l1 ++ [x])[0]? = some a := ⟨_, List.getElem?_eq_getElem (by omega)⟩
    have ea' : (l1 ++ [y])[0]? = some a := by
      cases l1 with
      | nil => simp at hl
      | cons p l1 => simpa using ea
    have e0 := ofE_of _ hl ha a ea
    rw [h0] at e0
    have hA : a.toNat ≠ 48 := by intro c; rw [if_pos c] at e0; omega
    have dx := dval_le hx
    have dy := dval_le hy
    obtain ⟨q1, q2⟩ := dm (val l1) (dval x) dx
    obtain ⟨q3, q4⟩ := dm (val l1) (dval y) dy
    rw [if_neg hA, val_snoc, q1, q2] at e0
    rw [ofE_of _ hl' ha' a ea', if_neg hA, val_snoc, q3, q4]
    have hne : dval x ≠ dval y := by
      intro h
      apply hxy
      rw [← dig_dval hx, ← dig_dval hy, h]
    by_cases c : val l1 % 7 = dval x
    · rw [if_neg (by omega)]
    · rw [if_neg c] at e0; omega

theorem tells (l : List UInt8) (hl : l.length = 13) (ha : l.all isDig = true) (h0 : ofE l = 0) (i : Nat) (hi : i ≤ 12) (x y : UInt8) (hx : l[i]? = some x) (hy : isDig y = true) :
    ofE (l.set i y) = if x = y then 0 else if i = 0 ∧ y.toNat = 48 then 2 else if i < 12 ∧ (x.toNat = y.toNat + 7 ∨ y.toNat = x.toNat + 7) then 0 else 11 := by
  have hlt : i < l.length := by omega
  have ex : l[i] = x := by rw [List.getElem?_eq_getElem hlt] at hx; injection hx
  have e1 : l = l.take i ++ x :: l.drop (i + 1) := by
    rw [← ex, ← List.drop_eq_getElem_cons hlt, List.take_append_drop]
  have e2 : l.set i y = l.take i ++ y :: l.drop (i + 1) := by rw [List.set_eq_take_append_cons_drop, if_pos hlt]
  by_cases hxy : x = y
  · subst hxy; rw [if_pos rfl, e2, ← e1, h0]
  rw [if_neg hxy, e2]
  have hxd : isDig x = true := List.all_eq_true.1 ha x (by rw [← ex]; exact List.getElem_mem _)
  have dx := isDig_iff.1 hxd
  have dy := isDig_iff.1 hy
  have hne : x.toNat ≠ y.toNat := fun h => hxy (UInt8.toNat_inj.1 h)
  have htl : (l.take i).length = i := by simp; omega
  have hdl : (l.drop (i + 1)).length = 12 - i := by simp; omega
  generalize l.take i = l1 at *
  generalize l.drop (i + 1) = l2 at *
  subst e1
  by_cases h12 : i < 12
  · have hr : l2 ≠ [] := by intro e; subst e; simp at hdl; omega
    have e3 := List.dropLast_concat_getLast hr
    generalize l2.dropLast = m at *
    generalize l2.getLast hr = b at *
    subst e3
    rw [tell_mid l1 m x y b hl ha hy h0]
    have hnil : l1 = [] ↔ i = 0 := by
      rw [← htl]; exact List.length_eq_zero_iff.symm
    by_cases c1 : i = 0 ∧ y.toNat = 48
    · rw [if_pos ⟨hnil.2 c1.1, c1.2⟩, if_pos c1]
    · rw [if_neg (fun h => c1 ⟨hnil.1 h.1, h.2⟩), if_neg c1]
      by_cases c2 : x.toNat = y.toNat + 7 ∨ y.toNat = x.toNat + 7
      · rw [if_pos (by unfold dval; omega), if_pos ⟨h12, c2⟩]
      · rw [if_neg (by unfold dval; omega), if_neg (fun h => c2 h.2)]
  · have : l2 = [] := List.length_eq_zero_iff.1 (by omega)
    subst this
    rw [tell_last l1 x y hl ha hy h0, if_neg hxy, if_neg (by omega), if_neg (by omega)]
end Go.Proofs.Ytmofcaclohnmmaa.Tell
