/- Plain words: the text of a number, and of a posting; no program in sight. Plain words: a report's lines; what the rows of each kind come to is together what all come to. -/
import Derived.Test.YtellhmbebimenaaDoorRt6
import Derived.Test.YtellhmbebimenaaDoorRt3
import Derived.Lib.ItoaNum
import Derived.Lib.Join
import Derived.Test.YtellhmbebimenaaDoorRt14

section
set_option linter.unusedVariables false
namespace Go.Proofs.YtellhmbebimenaaDoor

theorem decDigits_digits (n : Nat) : Lib.decDigits n = Dec.digits n := by
  induction n using Nat.strongRecOn with
  | _ n ih =>
    rw [Lib.decDigits, Dec.digits]
    by_cases h : n < 10
    · rw [dif_pos h, if_pos h]; unfold Dec.dig; rw [Nat.mod_eq_of_lt h]
    · rw [dif_neg h, if_neg h, ih _ (by omega)]; rfl
namespace Post
/-- a whole number's text -/
def sdig (n : Int) : List UInt8 := if n < 0 then 45 :: Dec.digits n.natAbs else Dec.digits n.toNat
theorem sdig_itoa (n : Int) : Lib.itoa n = sdig n := by
  unfold Lib.itoa sdig; rw [decDigits_digits, decDigits_digits]
theorem dig_len (n : Nat) (h : n < 100000000000000000000) : (Dec.digits n).length ≤ 20 := Dec.digits_length_le n 19 (by omega)
theorem sdig_len (n : Int) (h : -9223372036854775808 ≤ n ∧ n ≤ 9223372036854775807) : (sdig n).length ≤ 21 := by
  unfold sdig
  split
  · have := dig_len n.natAbs (by omega); rw [List.length_cons]; omega
  · have := dig_len n.toNat (by omega); omega
/-- the amounts' letters -/
def letters : List UInt8 := [67, 76, 82, 84, 80, 86]
def tpart (am : List Int) (i : Nat) : List (List UInt8) := if am.getD i 0 = 0 then [] else [letters.getD i 0 :: sdig (am.getD i 0)]
def tparts (am : List Int) (k : Nat) : List (List UInt8) := (List.range k).flatMap (tpart am)
theorem tparts_succ (am : List Int) (k : Nat) : tparts am (k + 1) = tparts am k ++ tpart am k := by
  unfold tparts; rw [List.range_succ, List.flatMap_append]; simp
theorem tparts_zero (am : List Int) : tparts am 0 = [] := rfl
theorem tpart_len (am : List Int) (k : Nat) : (tpart am k).length ≤ 1 := by unfold tpart; split <;> simp
theorem tparts_len (am : List Int) : ∀ k, (tparts am k).length ≤ k
  | 0 => by simp [tparts]
  | k + 1 => by rw [tparts_succ, List.length_append]; have := tparts_len am k; have := tpart_len am k; omega
/-- the first words -/
def heads (d t s k : Int) : List (List UInt8) := [name k, Dec.digits t.toNat, sdig s, sdig d]
def textJ (d t s k : Int) (am : List Int) (j : Nat) : List UInt8 := Lib.join (heads d t s k ++ tparts am j) [32]
def textL (d t s k : Int) (am : List Int) : List UInt8 := textJ d t s k am 6
theorem textJ_zero (d t s k : Int) (am : List Int) : textJ d t s k am 0 = ((((((name k ++ [32]) ++ Dec.digits t.toNat) ++ [32]) ++ sdig s) ++ [32]) ++ sdig d) := by
  unfold textJ heads
  rw [tparts_zero, List.append_nil, Lib.join_cons]
  unfold Lib.joinTail
  simp [List.append_assoc]
theorem joinTail_append (sep : List UInt8) (a b : List (List UInt8)) : Lib.joinTail sep (a ++ b) = Lib.joinTail sep a ++ Lib.joinTail sep b := by
  unfold Lib.joinTail; rw [List.map_append, List.flatten_append]
theorem textJ_succ (d t s k : Int) (am : List Int) (j : Nat) : textJ d t s k am (j + 1) = textJ d t s k am j ++ (if am.getD j 0 = 0 then [] else (32 :: [letters.getD j 0]) ++ sdig (am.getD j 0)) := by
  unfold textJ heads
  rw [tparts_succ]
  simp only [List.cons_append, List.nil_append]
  rw [Lib.join_cons, Lib.join_cons]
  rw [show ∀ (a b c : List UInt8) (l m : List (List UInt8)), (a :: b :: c :: (l ++ m)) = (a :: b :: c :: l) ++ m from fun _ _ _ _ _ => rfl, joinTail_append, List.append_assoc]
  congr 2
  unfold tpart
  split
  · rfl
  · simp [Lib.joinTail]
theorem name_len (k : Int) : (name k).length ≤ 8 := by
  unfold name; repeat' split
  all_goals decide
theorem textJ_len (d t s k : Int) (am : List Int) (hd : -9223372036854775808 ≤ d ∧ d ≤ 9223372036854775807) (hs : -9223372036854775808 ≤ s ∧ s ≤ 9223372036854775807) (ht : 0 ≤ t ∧ t ≤ 18446744073709551615) (ha : ∀ x ∈ am, -9223372036854775808 ≤ x ∧ x ≤ 9223372036854775807) :
    ∀ j, (textJ d t s k am j).length ≤ 80 + 24 * j
  | 0 => by
    rw [textJ_zero]
    have h1 := name_len k
    have h2 := dig_len t.toNat (by omega)
    have h3 := sdig_len s hs
    have h4 := sdig_len d hd
    simp only [List.length_append, List.length_cons, List.length_nil]
    omega
  | j + 1 => by
    have ih := textJ_len d t s k am hd hs ht ha j
    rw [textJ_succ, List.length_append]
    split
    · simp only [List.length_nil]; omega
    · have : -9223372036854775808 ≤ am.getD j 0 ∧ am.getD j 0 ≤ 9223372036854775807 := by
        rw [List.getD_eq_getElem?_getD]
        rcases Nat.lt_or_ge j am.length with h | h
        · rw [List.getElem?_eq_getElem h]; exact ha _ (List.getElem_mem h)
        · rw [List.getElem?_eq_none h]; simp
      have := sdig_len _ this
      simp only [List.length_append, List.length_cons, List.length_nil]
      omega
/-- a posting's text -/
def textB (d t s k : Int) (am : List Int) : ByteArray := if may d t s k am = true then ⟨(textL d t s k am).toArray⟩ else ⟨#[]⟩
end Post
end Go.Proofs.YtellhmbebimenaaDoor
end

section
set_option linter.unusedVariables false
namespace Go.Proofs.YtellhmbebimenaaDoor
/-- the rows of a kind -/
def Rep.ofK (k : Int) (p : Pst) : Bool := p.k == k
namespace Post
/-- the total's line, up to the j-th amount -/
def totW : List UInt8 := [116, 111, 116, 97, 108]
def totJ (m : Int) (am : List Int) (j : Nat) : List UInt8 := Lib.join ([totW, sdig m] ++ tparts am j) [32]
theorem totJ_zero (m : Int) (am : List Int) : totJ m am 0 = (totW ++ [32]) ++ sdig m := by
  unfold totJ
  rw [tparts_zero, List.append_nil, Lib.join_cons]
  unfold Lib.joinTail
  simp [List.append_assoc]
theorem totJ_succ (m : Int) (am : List Int) (j : Nat) : totJ m am (j + 1) = totJ m am j ++ (if am.getD j 0 = 0 then [] else (32 :: [letters.getD j 0]) ++ sdig (am.getD j 0)) := by
  unfold totJ
  rw [tparts_succ]
  simp only [List.cons_append, List.nil_append]
  rw [Lib.join_cons, Lib.join_cons]
  rw [show ∀ (c : List UInt8) (l m : List (List UInt8)), (c :: (l ++ m)) = (c :: l) ++ m from fun _ _ _ => rfl, joinTail_append, List.append_assoc]
  congr 2
  unfold tpart
  split
  · rfl
  · simp [Lib.joinTail]
theorem totJ_len (m : Int) (am : List Int) (hm : -9223372036854775808 ≤ m ∧ m ≤ 9223372036854775807) (ha : ∀ x ∈ am, -9223372036854775808 ≤ x ∧ x ≤ 9223372036854775807) :
    ∀ j, (totJ m am j).length ≤ 40 + 24 * j
  | 0 => by
    rw [totJ_zero]
    have h3 := sdig_len m hm
    unfold totW
    simp only [List.length_append, List.length_cons, List.length_nil]
    omega
  | j + 1 => by
    have ih := totJ_len m am hm ha j
    rw [totJ_succ, List.length_append]
    split
    · simp only [List.length_nil]; omega
    · have : -9223372036854775808 ≤ am.getD j 0 ∧ am.getD j 0 ≤ 9223372036854775807 := by
        rw [List.getD_eq_getElem?_getD]
        rcases Nat.lt_or_ge j am.length with h | h
        · rw [List.getElem?_eq_getElem h]; exact ha _ (List.getElem_mem h)
        · rw [List.getElem?_eq_none h]; simp
      have := sdig_len _ this
      simp only [List.length_append, List.length_cons, List.length_nil]
      omega
/-- a report's lines -/
def lineP (p : Pst) : List UInt8 := textL p.d p.t p.s p.k p.am
def linesR (l : List Pst) (m : Int) (am : List Int) : List (List UInt8) := l.map lineP ++ [totJ m am 6]
/-- the first j kinds' columns -/
def kS (f : Pst → Int) (l : List Pst) : Nat → Int
  | 0 => 0
  | j + 1 => kS f l j + colS f (l.filter (Rep.ofK ((j : Int) + 1)))
def kN (l : List Pst) : Nat → Int
  | 0 => 0
  | j + 1 => kN l j + ((l.filter (Rep.ofK ((j : Int) + 1))).length : Int)
theorem colF (f : Pst → Int) (p : Pst) (l : List Pst) (j : Int) : colS f ((p :: l).filter (Rep.ofK j)) = (if p.k = j then f p else 0) + colS f (l.filter (Rep.ofK j)) := by
  by_cases h : p.k = j
  · rw [List.filter_cons, if_pos (show Rep.ofK j p = true by unfold Rep.ofK; simpa using h), if_pos h]; rfl
  · rw [List.filter_cons, if_neg (show ¬ Rep.ofK j p = true by unfold Rep.ofK; simpa using h), if_neg h]; simp
theorem lenF (p : Pst) (l : List Pst) (j : Int) : (((p :: l).filter (Rep.ofK j)).length : Int) = (if p.k = j then 1 else 0) + ((l.filter (Rep.ofK j)).length : Int) := by
  by_cases h : p.k = j
  · rw [List.filter_cons, if_pos (show Rep.ofK j p = true by unfold Rep.ofK; simpa using h), if_pos h, List.length_cons]; omega
  · rw [List.filter_cons, if_neg (show ¬ Rep.ofK j p = true by unfold Rep.ofK; simpa using h), if_neg h]; simp
theorem kS_out (f : Pst → Int) (l : List Pst) : kS f l 5 = 0 + colS f (l.filter (Rep.ofK 1)) + colS f (l.filter (Rep.ofK 2)) + colS f (l.filter (Rep.ofK 3)) + colS f (l.filter (Rep.ofK 4)) + colS f (l.filter (Rep.ofK 5)) := rfl
theorem kN_out (l : List Pst) : kN l 5 = 0 + ((l.filter (Rep.ofK 1)).length : Int) + ((l.filter (Rep.ofK 2)).length : Int) + ((l.filter (Rep.ofK 3)).length : Int) + ((l.filter (Rep.ofK 4)).length : Int) + ((l.filter (Rep.ofK 5)).length : Int) := rfl
theorem kS_five (f : Pst → Int) (l : List Pst) (h : ∀ p ∈ l, 1 ≤ p.k ∧ p.k ≤ 5) : kS f l 5 = colS f l := by
  induction l with
  | nil => rfl
  | cons p l ih =>
    have ih := ih fun q hq => h q (by simp [hq])
    have hp := h p (by simp)
    rw [kS_out] at ih ⊢
    rw [colF, colF, colF, colF, colF, show colS f (p :: l) = f p + colS f l from rfl, ← ih]
    have hc : p.k = 1 ∨ p.k = 2 ∨ p.k = 3 ∨ p.k = 4 ∨ p.k = 5 := by omega
    rcases hc with e | e | e | e | e <;> rw [e] <;> simp <;> omega
theorem kN_five (l : List Pst) (h : ∀ p ∈ l, 1 ≤ p.k ∧ p.k ≤ 5) : kN l 5 = (l.length : Int) := by
  induction l with
  | nil => rfl
  | cons p l ih =>
    have ih := ih fun q hq => h q (by simp [hq])
    have hp := h p (by simp)
    rw [kN_out] at ih ⊢
    rw [lenF, lenF, lenF, lenF, lenF, List.length_cons, show ((l.length + 1 : Nat) : Int) = (l.length : Int) + 1 from rfl, ← ih]
    have hc : p.k = 1 ∨ p.k = 2 ∨ p.k = 3 ∨ p.k = 4 ∨ p.k = 5 := by omega
    rcases hc with e | e | e | e | e <;> rw [e] <;> simp <;> omega
theorem kS_bound (f : Pst → Int) {l : List Pst} (hl : l.length ≤ 60) (h : ∀ p ∈ l, -1125899906842624 ≤ f p ∧ f p ≤ 1125899906842624) : ∀ j : Nat, -((j : Int) * 67553994410557440) ≤ kS f l j ∧ kS f l j ≤ (j : Int) * 67553994410557440
  | 0 => by unfold kS; simp
  | j + 1 => by
    have ih := kS_bound f hl h j
    have h2 := colS_bound f (l := l.filter (Rep.ofK ((j : Int) + 1))) fun p hp => h p (List.mem_filter.1 hp).1
    have h3 : (l.filter (Rep.ofK ((j : Int) + 1))).length ≤ 60 := Nat.le_trans (List.length_filter_le _ _) hl
    unfold kS
    omega
theorem kN_bound {l : List Pst} (hl : l.length ≤ 60) : ∀ j : Nat, 0 ≤ kN l j ∧ kN l j ≤ (j : Int) * 60
  | 0 => by unfold kN; simp
  | j + 1 => by
    have ih := kN_bound hl j
    have h3 : (l.filter (Rep.ofK ((j : Int) + 1))).length ≤ 60 := Nat.le_trans (List.length_filter_le _ _) hl
    unfold kN
    omega
end Post
end Go.Proofs.YtellhmbebimenaaDoor
end
