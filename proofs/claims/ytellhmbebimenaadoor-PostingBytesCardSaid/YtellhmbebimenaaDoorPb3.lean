/- Plain words: the text of a number, and of a posting; no program in sight. Contracts of package number's leaf functions: Check, mayCarrier, maySerial, Make. -/
import Derived.Test.YtellhmbebimenaaDoorPb2
import Derived.Lib.ItoaNum
import Derived.Lib.Join
import Derived.Test.YtellhmbebimenaaDoorRows
import Derived.WalkKit
import Derived.WalkSpells
import Derived.WalkLawsBesides
import Derived.Deep.QuietTactic
import Derived.BigQuiet
import Derived.Lib.Hide

section
set_option linter.unusedVariables false
namespace Go.Proofs.YtellhmbebimenaaDoor

theorem decDigits_digits (n : Nat) : Lib.decDigits n = Dec.digits n := by
  induction n using Nat.strongRecOn with
  | _ n ih =>
    rw [Lib.decDigits, Dec.digits]
    by_cases h : n < 10
    · rw [dif_pos h, if_pos h]; unfold Dec.dig; rw [Nat.mod_eq_of_lt h]
    · rw [dif_neg h, if_neg h, ih _ (by omega)]; rfl
namespace Post
/-- a whole number's text -/
def sdig (n : Int) : List UInt8 := if n < 0 then 45 :: Dec.digits n.natAbs else Dec.digits n.toNat
theorem sdig_itoa (n : Int) : Lib.itoa n = sdig n := by
  unfold Lib.itoa sdig; rw [decDigits_digits, decDigits_digits]
theorem dig_len (n : Nat) (h : n < 100000000000000000000) : (Dec.digits n).length ≤ 20 := Dec.digits_length_le n 19 (by omega)
theorem sdig_len (n : Int) (h : -9223372036854775808 ≤ n ∧ n ≤ 9223372036854775807) : (sdig n).length ≤ 21 := by
  unfold sdig
  split
  · have := dig_len n.natAbs (by omega); rw [List.length_cons]; omega
  · have := dig_len n.toNat (by omega); omega
/-- the amounts' letters -/
def letters : List UInt8 := [67, 76, 82, 84, 80, 86]
def tpart (am : List Int) (i : Nat) : List (List UInt8) := if am.getD i 0 = 0 then [] else [letters.getD i 0 :: sdig (am.getD i 0)]
def tparts (am : List Int) (k : Nat) : List (List UInt8) := (List.range k).flatMap (tpart am)
theorem tparts_succ (am : List Int) (k : Nat) : tparts am (k + 1) = tparts am k ++ tpart am k := by
  unfold tparts; rw [List.range_succ, List.flatMap_append]; simp
theorem tparts_zero (am : List Int) : tparts am 0 = [] := rfl
theorem tpart_len (am : List Int) (k : Nat) : (tpart am k).length ≤ 1 := by unfold tpart; split <;> simp
theorem tparts_len (am : List Int) : ∀ k, (tparts am k).length ≤ k
  | 0 => by simp [tparts]
  | k + 1 => by rw [tparts_succ, List.length_append]; have := tparts_len am k; have := tpart_len am k; omega
/-- the first words -/
def heads (d t s k : Int) : List (List UInt8) := [name k, Dec.digits t.toNat, sdig s, sdig d]
def textJ (d t s k : Int) (am : List Int) (j : Nat) : List UInt8 := Lib.join (heads d t s k ++ tparts am j) [32]
def textL (d t s k : Int) (am : List Int) : List UInt8 := textJ d t s k am 6
theorem textJ_zero (d t s k : Int) (am : List Int) : textJ d t s k am 0 = ((((((name k ++ [32]) ++ Dec.digits t.toNat) ++ [32]) ++ sdig s) ++ [32]) ++ sdig d) := by
  unfold textJ heads
  rw [tparts_zero, List.append_nil, Lib.join_cons]
  unfold Lib.joinTail
  simp [List.append_assoc]
theorem joinTail_append (sep : List UInt8) (a b : List (List UInt8)) : Lib.joinTail sep (a ++ b) = Lib.joinTail sep a ++ Lib.joinTail sep b := by
  unfold Lib.joinTail; rw [List.map_append, List.flatten_append]
theorem textJ_succ (d t s k : Int) (am : List Int) (j : Nat) : textJ d t s k am (j + 1) = textJ d t s k am j ++ (if am.getD j 0 = 0 then [] else (32 :: [letters.getD j 0]) ++ sdig (am.getD j 0)) := by
  unfold textJ heads
  rw [tparts_succ]
  simp only [List.cons_append, List.nil_append]
  rw [Lib.join_cons, Lib.join_cons]
  rw [show ∀ (a b c : List UInt8) (l m : List (List UInt8)), (a :: b :: c :: (l ++ m)) = (a :: b :: c :: l) ++ m from fun _ _ _ _ _ => rfl, joinTail_append, List.append_assoc]
  congr 2
  unfold tpart
  split
  · rfl
  · simp [Lib.joinTail]
theorem name_len (k : Int) : (name k).length ≤ 8 := by
  unfold name; repeat' split
  all_goals decide
theorem textJ_len (d t s k : Int) (am : List Int) (hd : -9223372036854775808 ≤ d ∧ d ≤ 9223372036854775807) (hs : -9223372036854775808 ≤ s ∧ s ≤ 9223372036854775807) (ht : 0 ≤ t ∧ t ≤ 18446744073709551615) (ha : ∀ x ∈ am, -9223372036854775808 ≤ x ∧ x ≤ 9223372036854775807) :
    ∀ j, (textJ d t s k am j).length ≤ 80 + 24 * j
  | 0 => by
    rw [textJ_zero]
    have h1 := name_len k
    have h2 := dig_len t.toNat (by omega)
    have h3 := sdig_len s hs
    have h4 := sdig_len d hd
    simp only [List.length_append, List.length_cons, List.length_nil]
    omega
  | j + 1 => by
    have ih := textJ_len d t s k am hd hs ht ha j
    rw [textJ_succ, List.length_append]
    split
    · simp only [List.length_nil]; omega
    · have : -9223372036854775808 ≤ am.getD j 0 ∧ am.getD j 0 ≤ 9223372036854775807 := by
        rw [List.getD_eq_getElem?_getD]
        rcases Nat.lt_or_ge j am.length with h | h
        · rw [List.getElem?_eq_getElem h]; exact ha _ (List.getElem_mem h)
        · rw [List.getElem?_eq_none h]; simp
      have := sdig_len _ this
      simp only [List.length_append, List.length_cons, List.length_nil]
      omega
/-- a posting's text -/
def textB (d t s k : Int) (am : List Int) : ByteArray := if may d t s k am = true then ⟨(textL d t s k am).toArray⟩ else ⟨#[]⟩
end Post
end Go.Proofs.YtellhmbebimenaaDoor
end

section
namespace Go.Proofs.YtellhmbebimenaaDoor
open Go.RowKit

theorem ret_int {k : IntKind} {a b : Int} (h : a = b) : Ending.returned (.int k a) = .returned (.int k b) := by rw [h]
theorem ret_bool {a b : Bool} (h : a = b) : Ending.returned (.bool a) = .returned (.bool b) := by rw [h]

set_option maxHeartbeats 400000 in
theorem check_any (n : Int) (h0 : 0 ≤ n) (hb : n ≤ 18446744073709551615) (w : World) :
    Calls Tryd.prog 71 #[.int .u64 n] w fun e w' => e = .returned (.int .i64 (Num.check n)) ∧ w = w' := by
  go_enter Tryd.func71, Tryd.ntmps71
  go_wp2
  all_goals
    go_ret
    refine ⟨ret_int ?_, rfl⟩
    unfold Num.check
    simp_all
    try omega

theorem ret_pair {k k' : IntKind} {a b c d : Int} (h : a = b) (h' : c = d) : Ending.returned (.tuple #[.int k a, .int k' c]) = .returned (.tuple #[.int k b, .int k' d]) := by rw [h, h']

end Go.Proofs.YtellhmbebimenaaDoor
end
