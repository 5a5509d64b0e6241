/- Plain words: the text of a number, and of a posting; no program in sight. The library's table of powers of ten, as it is laid; contracts of strconv.Itoa and FormatInt at base 10 over it. -/
import Derived.Test.YtellhmbebimenaaDoorLa32
import Derived.Test.YtellhmbebimenaaDoorLa14
import Derived.Lib.ItoaNum
import Derived.Lib.Join
import Derived.Test.YtellhmbebimenaaDoorShelf
import Derived.Test.YtellhmbebimenaaDoorRows
import Derived.Lib.AppendIntMem
import Derived.Lib.LaidTab
import Derived.Lib.LaidU8
import Derived.LaidMore

section
set_option linter.unusedVariables false
namespace Go.Proofs.YtellhmbebimenaaDoor

theorem decDigits_digits (n : Nat) : Lib.decDigits n = Dec.digits n := by
  induction n using Nat.strongRecOn with
  | _ n ih =>
    rw [Lib.decDigits, Dec.digits]
    by_cases h : n < 10
    · rw [dif_pos h, if_pos h]; unfold Dec.dig; rw [Nat.mod_eq_of_lt h]
    · rw [dif_neg h, if_neg h, ih _ (by omega)]; rfl
namespace Post
/-- a whole number's text -/
def sdig (n : Int) : List UInt8 := if n < 0 then 45 :: Dec.digits n.natAbs else Dec.digits n.toNat
theorem sdig_itoa (n : Int) : Lib.itoa n = sdig n := by
  unfold Lib.itoa sdig; rw [decDigits_digits, decDigits_digits]
theorem dig_len (n : Nat) (h : n < 100000000000000000000) : (Dec.digits n).length ≤ 20 := Dec.digits_length_le n 19 (by omega)
theorem sdig_len (n : Int) (h : -9223372036854775808 ≤ n ∧ n ≤ 9223372036854775807) : (sdig n).length ≤ 21 := by
  unfold sdig
  split
  · have := dig_len n.natAbs (by omega); rw [List.length_cons]; omega
  · have := dig_len n.toNat (by omega); omega
/-- the amounts' letters -/
def letters : List UInt8 := [67, 76, 82, 84, 80, 86]
def tpart (am : List Int) (i : Nat) : List (List UInt8) := if am.getD i 0 = 0 then [] else [letters.getD i 0 :: sdig (am.getD i 0)]
def tparts (am : List Int) (k : Nat) : List (List UInt8) := (List.range k).flatMap (tpart am)
theorem tparts_succ (am : List Int) (k : Nat) : tparts am (k + 1) = tparts am k ++ tpart am k := by
  unfold tparts; rw [List.range_succ, List.flatMap_append]; simp
theorem tparts_zero (am : List Int) : tparts am 0 = [] := rfl
theorem tpart_len (am : List Int) (k : Nat) : (tpart am k).length ≤ 1 := by unfold tpart; split <;> simp
theorem tparts_len (am : List Int) : ∀ k, (tparts am k).length ≤ k
  | 0 => by simp [tparts]
  | k + 1 => by rw [tparts_succ, List.length_append]; have := tparts_len am k; have := tpart_len am k; omega
/-- the first words -/
def heads (d t s k : Int) : List (List UInt8) := [name k, Dec.digits t.toNat, sdig s, sdig d]
def textJ (d t s k : Int) (am : List Int) (j : Nat) : List UInt8 := Lib.join (heads d t s k ++ tparts am j) [32]
def textL (d t s k : Int) (am : List Int) : List UInt8 := textJ d t s k am 6
theorem textJ_zero (d t s k : Int) (am : List Int) : textJ d t s k am 0 = ((((((name k ++ [32]) ++ Dec.digits t.toNat) ++ [32]) ++ sdig s) ++ [32]) ++ sdig d) := by
  unfold textJ heads
  rw [tparts_zero, List.append_nil, Lib.join_cons]
  unfold Lib.joinTail
  simp [List.append_assoc]
theorem joinTail_append (sep : List UInt8) (a b : List (List UInt8)) : Lib.joinTail sep (a ++ b) = Lib.joinTail sep a ++ Lib.joinTail sep b := by
  unfold Lib.joinTail; rw [List.map_append, List.flatten_append]
theorem textJ_succ (d t s k : Int) (am : List Int) (j : Nat) : textJ d t s k am (j + 1) = textJ d t s k am j ++ (if am.getD j 0 = 0 then [] else (32 :: [letters.getD j 0]) ++ sdig (am.getD j 0)) := by
  unfold textJ heads
  rw [tparts_succ]
  simp only [List.cons_append, List.nil_append]
  rw [Lib.join_cons, Lib.join_cons]
  rw [show ∀ (a b c : List UInt8) (l m : List (List UInt8)), (a :: b :: c :: (l ++ m)) = (a :: b :: c :: l) ++ m from fun _ _ _ _ _ => rfl, joinTail_append, List.append_assoc]
  congr 2
  unfold tpart
  split
  · rfl
  · simp [Lib.joinTail]
theorem name_len (k : Int) : (name k).length ≤ 8 := by
  unfold name; repeat' split
  all_goals decide
theorem textJ_len (d t s k : Int) (am : List Int) (hd : -9223372036854775808 ≤ d ∧ d ≤ 9223372036854775807) (hs : -9223372036854775808 ≤ s ∧ s ≤ 9223372036854775807) (ht : 0 ≤ t ∧ t ≤ 18446744073709551615) (ha : ∀ x ∈ am, -9223372036854775808 ≤ x ∧ x ≤ 9223372036854775807) :
    ∀ j, (textJ d t s k am j).length ≤ 80 + 24 * j
  | 0 => by
    rw [textJ_zero]
    have h1 := name_len k
    have h2 := dig_len t.toNat (by omega)
    have h3 := sdig_len s hs
    have h4 := sdig_len d hd
    simp only [List.length_append, List.length_cons, List.length_nil]
    omega
  | j + 1 => by
    have ih := textJ_len d t s k am hd hs ht ha j
    rw [textJ_succ, List.length_append]
    split
    · simp only [List.length_nil]; omega
    · have : -9223372036854775808 ≤ am.getD j 0 ∧ am.getD j 0 ≤ 9223372036854775807 := by
        rw [List.getD_eq_getElem?_getD]
        rcases Nat.lt_or_ge j am.length with h | h
        · rw [List.getElem?_eq_getElem h]; exact ha _ (List.getElem_mem h)
        · rw [List.getElem?_eq_none h]; simp
      have := sdig_len _ this
      simp only [List.length_append, List.length_cons, List.length_nil]
      omega
/-- a posting's text -/
def textB (d t s k : Int) (am : List Int) : ByteArray := if may d t s k am = true then ⟨(textL d t s k am).toArray⟩ else ⟨#[]⟩
end Post
end Go.Proofs.YtellhmbebimenaaDoor
end

section
set_option linter.unusedVariables false
set_option linter.unusedSimpArgs false
namespace Go.Proofs.YtellhmbebimenaaDoor
open Go.RowKit Go.ChangeShapes

/-- the table lies as its initialiser lays it -/
def Tab (w : World) : Prop := Lib.TabIs Tryd.prog w "internal/strconv.uint64pow10" .u64 Lib.pow10Tab
theorem Tab.below {w w' : World} (h : Tab w) (hb : Below w.heap.size w w') : Tab w' := Lib.tabBelow_of_tabIs h w' hb
theorem below_grow (w : World) (k : Nat) (os : Array Obj) : Below w.heap.size w (Sort.grow (w.drewN k) os) := by
  refine ⟨rfl, rfl, rfl, ?_, fun i hi => ?_⟩
  · show w.heap.size ≤ (w.heap ++ os).size
    simp
  · show (w.heap ++ os)[i]? = _
    rw [Array.getElem?_append_left hi]
theorem itoa_any (n : Int) (h0 : -9223372036854775808 ≤ n) (h1 : n ≤ 9223372036854775807) (w : World) (ht : Tab w) :
    Calls Tryd.prog 73 #[.int .i64 n] w fun e w' => e = .returned (.string ⟨(Post.sdig n).toArray⟩) ∧ Below w.heap.size w w' :=
  (Tryd.strconv_Itoa n h0 h1 w ht).mono fun e w' ⟨he, k, os, hw⟩ => ⟨by rw [he, Post.sdig_itoa], by rw [hw]; exact below_grow w k os⟩
theorem fint_any (n : Int) (h0 : -9223372036854775808 ≤ n) (h1 : n ≤ 9223372036854775807) (w : World) (ht : Tab w) :
    Calls Tryd.prog 74 #[.int .i64 n, .int .i64 10] w fun e w' => e = .returned (.string ⟨(Post.sdig n).toArray⟩) ∧ Below w.heap.size w w' :=
  (Tryd.strconv_FormatInt_10 n h0 h1 w ht).mono fun e w' ⟨he, k, os, hw⟩ => ⟨by rw [he, Post.sdig_itoa], by rw [hw]; exact below_grow w k os⟩
theorem gTab : Tryd.prog.globalNamed "internal/strconv.uint64pow10" = some 0 := by kernel_rfl
theorem tTab : (Tryd.prog.globals[0]?).map (·.type) = some 210 := by kernel_rfl
/-- out of the laid list -/
theorem tab_of_laid {W : World} {l : List (String × DataW Unit)} (h : laidMet Tryd.prog l W) (hm : ("internal/strconv.uint64pow10", Rows.laid_internal_strconv_uint64pow10) ∈ l) : Tab W := by
  obtain ⟨g, t, cs, fuel, p, hg, hty, hvar, hd⟩ := Lib.laidMet.reads h hm
  have e : (Rows.laid_internal_strconv_uint64pow10 : DataW Unit) = Lib.tabData .u64 Lib.pow10Tab := by kernel_rfl
  rw [e] at hd
  obtain rfl := Option.some.inj (gTab.symm.trans hg)
  obtain rfl := Option.some.inj (tTab.symm.trans hty)
  unfold Tab Lib.TabIs
  rw [hvar, ← Lib.cells_of_tab Tryd.underlying210 Tryd.underlying22 (by kernel_rfl) (by kernel_rfl) hd]
end Go.Proofs.YtellhmbebimenaaDoor
end
