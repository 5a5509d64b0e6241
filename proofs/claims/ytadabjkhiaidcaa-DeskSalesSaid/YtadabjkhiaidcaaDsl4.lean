/- Plain facts on decimal digits as bytes; no program in sight. Plain definitions and facts on ticket numbers; no program in sight. Plain words for tickets: coupons, taxes, events; which tickets may be. Contracts of package number's leaf functions: Check, mayCarrier, maySerial, Make. Contracts of the two Locator functions: which texts are locators. -/
import GoSem.Core.Value
import Derived.Test.YtadabjkhiaidcaaDsl2
import Derived.Test.YtadabjkhiaidcaaRows
import Derived.WalkKit
import Derived.WalkSpells
import Derived.WalkLawsBesides
import Derived.Deep.QuietTactic
import Derived.BigQuiet
import Derived.Lib.Hide

section
namespace Go.Proofs.Ytadabjkhiaidcaa.Dec

def isDig (c : UInt8) : Bool := 48 ≤ c.toNat && c.toNat ≤ 57
def dval (c : UInt8) : Nat := c.toNat - 48
def dig (n : Nat) : UInt8 := UInt8.ofNat (48 + n % 10)
def vstep (a : Nat) (c : UInt8) : Nat := 10 * a + dval c
def valF (a : Nat) (l : List UInt8) : Nat := l.foldl vstep a
def val (l : List UInt8) : Nat := valF 0 l
/-- so many digits of a number, the last ones -/
def text : Nat → Nat → List UInt8
  | _, 0 => []
  | n, k + 1 => text (n / 10) k ++ [dig n]
/-- a number's digits, as few as can be -/
def digits (n : Nat) : List UInt8 :=
  if n < 10 then [dig n] else digits (n / 10) ++ [dig n]
termination_by n
decreasing_by omega

theorem isDig_iff {c : UInt8} : isDig c = true ↔ 48 ≤ c.toNat ∧ c.toNat ≤ 57 := by unfold isDig; simp
theorem dig_toNat (n : Nat) : (dig n).toNat = 48 + n % 10 := by unfold dig; rw [UInt8.toNat_ofNat']; omega
theorem dig_isDig (n : Nat) : isDig (dig n) = true := by rw [isDig_iff, dig_toNat]; omega
theorem dval_dig (n : Nat) : dval (dig n) = n % 10 := by unfold dval; rw [dig_toNat]; omega
theorem dval_le {c : UInt8} (h : isDig c = true) : dval c ≤ 9 := by rw [isDig_iff] at h; unfold dval; omega
theorem dig_dval {c : UInt8} (h : isDig c = true) : dig (dval c) = c := by
  rw [isDig_iff] at h
  apply UInt8.toNat_inj.1
  rw [dig_toNat]; unfold dval; omega

theorem snocRec {α : Type} {M : List α → Prop} (h0 : M []) (h1 : ∀ l c, M l → M (l ++ [c])) (l : List α) : M l := by
  have h : ∀ r : List α, M r.reverse := by
    intro r
    induction r with
    | nil => exact h0
    | cons c r ih => rw [List.reverse_cons]; exact h1 _ _ ih
  have := h l.reverse
  rwa [List.reverse_reverse] at this
theorem valF_cons (a : Nat) (c : UInt8) (l : List UInt8) : valF a (c :: l) = valF (10 * a + dval c) l := by unfold valF; rw [List.foldl_cons]; simp only [vstep]
theorem valF_append (a : Nat) (l r : List UInt8) : valF a (l ++ r) = valF (valF a l) r := by unfold valF; rw [List.foldl_append]
theorem val_snoc (l : List UInt8) (c : UInt8) : val (l ++ [c]) = 10 * val l + dval c := by unfold val; rw [valF_append, valF_cons]; simp only [valF, List.foldl_nil]
theorem valF_lin (a : Nat) (l : List UInt8) : valF a l = a * 10 ^ l.length + val l := by
  induction l generalizing a with
  | nil => simp [valF, val]
  | cons c l ih =>
    have h1 := ih (10 * a + dval c)
    have h2 := ih (10 * 0 + dval c)
    unfold val
    rw [valF_cons, valF_cons, h1, h2, List.length_cons, Nat.pow_succ]
    rw [Nat.add_mul]
    have e1 : 10 * a * 10 ^ l.length = a * (10 ^ l.length * 10) := by rw [Nat.mul_comm 10 a, Nat.mul_assoc, Nat.mul_comm 10]
    have e2 : (10 * 0 + dval c) * 10 ^ l.length = dval c * 10 ^ l.length := by rw [Nat.mul_zero, Nat.zero_add]
    omega
theorem val_append (l r : List UInt8) : val (l ++ r) = val l * 10 ^ r.length + val r := by
  unfold val; rw [valF_append, valF_lin]; rfl
theorem val_lt (l : List UInt8) (h : l.all isDig = true) : val l < 10 ^ l.length := by
  induction l using snocRec with
  | h0 => simp [val, valF]
  | h1 l c ih =>
    rw [List.all_append, Bool.and_eq_true] at h
    have h1 := ih h.1
    have h2 := dval_le (c := c) (by simpa using h.2)
    rw [val_snoc, List.length_append, List.length_singleton, Nat.pow_succ]
    omega

theorem text_length (n k : Nat) : (text n k).length = k := by
  induction k generalizing n with
  | zero => rfl
  | succ k ih => simp [text, ih]
theorem text_all (n k : Nat) : (text n k).all isDig = true := by
  induction k generalizing n with
  | zero => rfl
  | succ k ih => simp only [text, List.all_append, ih, Bool.true_and, List.all_cons, List.all_nil, dig_isDig]
theorem text_val (n k : Nat) : val (text n k) = n % 10 ^ k := by
  induction k generalizing n with
  | zero => simp [text, val, valF, Nat.mod_one]
  | succ k ih =>
    simp only [text]
    rw [val_snoc, ih, dval_dig, Nat.pow_succ, Nat.mul_comm (10 ^ k) 10]
    have := Nat.mod_mul_right_div_self n 10 (10 ^ k)
    have h2 := Nat.div_add_mod (n % (10 * 10 ^ k)) 10
    have h3 : n % (10 * 10 ^ k) % 10 = n % 10 := Nat.mod_mul_right_mod n 10 (10 ^ k)
    omega
theorem val_text (l : List UInt8) (h : l.all isDig = true) : text (val l) l.length = l := by
  induction l using snocRec with
  | h0 => rfl
  | h1 l c ih =>
    rw [List.all_append, Bool.and_eq_true] at h
    have hc : isDig c = true := by simpa using h.2
    have h1 := ih h.1
    have h2 := dval_le hc
    rw [List.length_append, List.length_singleton]
    show text (val (l ++ [c]) / 10) l.length ++ [dig (val (l ++ [c]))] = _
    rw [val_snoc]
    have e1 : (10 * val l + dval c) / 10 = val l := by omega
    have e2 : dig (10 * val l + dval c) = c := by
      have : dig (10 * val l + dval c) = dig (dval c) := by unfold dig; congr 2; omega
      rw [this, dig_dval hc]
    rw [e1, e2, h1]
theorem digits_lt {n : Nat} (h : n < 10) : digits n = [dig n] := by rw [digits, if_pos h]
theorem digits_ge {n : Nat} (h : ¬ n < 10) : digits n = digits (n / 10) ++ [dig n] := by rw [digits, if_neg h]
theorem digits_ne (n : Nat) : digits n ≠ [] := by
  by_cases h : n < 10
  · rw [digits_lt h]; simp
  · rw [digits_ge h]; simp
theorem digits_eq_text (n : Nat) : digits n = text n (digits n).length := by
  induction n using Nat.strongRecOn with
  | _ n ih =>
    by_cases h : n < 10
    · rw [digits_lt h]; simp [text]
    · rw [digits_ge h, List.length_append, List.length_singleton]
      show _ = text (n / 10) _ ++ [dig n]
      rw [← ih (n / 10) (by omega)]
theorem digits_all (n : Nat) : (digits n).all isDig = true := by rw [digits_eq_text]; exact text_all _ _
/-- how many digits: k + 1 just if 10^k ≤ n < 10^(k+1) (k > 0) -/
theorem digits_length_le (n k : Nat) (h : n < 10 ^ (k + 1)) : (digits n).length ≤ k + 1 := by
  induction k generalizing n with
  | zero => rw [digits_lt (by simpa using h)]; simp
  | succ k ih =>
    by_cases hn : n < 10
    · rw [digits_lt hn]; simp
    · rw [digits_ge hn, List.length_append, List.length_singleton]
      have := ih (n / 10) (by rw [Nat.pow_succ] at h; omega)
      omega
theorem digits_length_ge (n k : Nat) (h : 10 ^ k ≤ n) : k + 1 ≤ (digits n).length := by
  induction k generalizing n with
  | zero =>
    have := digits_ne n
    cases hd : digits n with
    | nil => exact absurd hd this
    | cons a l => simp
  | succ k ih =>
    have hp : 1 ≤ 10 ^ k := Nat.one_le_pow _ _ (by decide)
    have hn : ¬ n < 10 := by rw [Nat.pow_succ] at h; omega
    rw [digits_ge hn, List.length_append, List.length_singleton]
    have := ih (n / 10) (by rw [Nat.pow_succ] at h; omega)
    omega
theorem digits_val (n : Nat) : val (digits n) = n := by
  induction n using Nat.strongRecOn with
  | _ n ih =>
    by_cases h : n < 10
    · rw [digits_lt h]; show 10 * 0 + dval (dig n) = n; rw [dval_dig]; omega
    · rw [digits_ge h, val_snoc, ih (n / 10) (by omega), dval_dig]; omega
/-- the loop that writes a number's digits from the last one on: its state behind a round -/
def Dst (N N' : Nat) (acc : List UInt8) : Prop := (acc = [] ∧ N' = N) ∨ (acc.isEmpty = false ∧ 0 < N' ∧ digits N = digits N' ++ acc) ∨ (acc.isEmpty = false ∧ N' = 0 ∧ digits N = acc)
theorem digits_step {N N' : Nat} {acc : List UInt8} (h : digits N = digits N' ++ acc) : Dst N (N' / 10) (dig N' :: acc) := by
  by_cases h10 : N' < 10
  · refine .inr (.inr ⟨rfl, by omega, ?_⟩)
    rw [h, digits_lt h10]; rfl
  · refine .inr (.inl ⟨rfl, by omega, ?_⟩)
    rw [h, digits_ge h10]; simp
theorem text_split (n k j : Nat) : text n (k + j) = text (n / 10 ^ j) k ++ text n j := by
  induction j generalizing n with
  | zero => simp [text]
  | succ j ih =>
    show text (n / 10) (k + j) ++ [dig n] = _ ++ (text (n / 10) j ++ [dig n])
    rw [ih (n / 10), Nat.div_div_eq_div_mul, Nat.pow_succ, Nat.mul_comm (10 ^ j) 10, List.append_assoc]
theorem text_take (n k j : Nat) : (text n (k + j)).take k = text (n / 10 ^ j) k := by
  rw [text_split, List.take_append_of_le_length (by rw [text_length]; exact Nat.le_refl _), List.take_of_length_le (by rw [text_length]; exact Nat.le_refl _)]
theorem text_drop (n k j : Nat) : (text n (k + j)).drop k = text n j := by
  rw [text_split, List.drop_append_of_le_length (by rw [text_length]; exact Nat.le_refl _), List.drop_of_length_le (by rw [text_length]; exact Nat.le_refl _)]; rfl
end Go.Proofs.Ytadabjkhiaidcaa.Dec
end

section
namespace Go.Proofs.Ytadabjkhiaidcaa.Num

def check (n : Int) : Int := if n < 1000000000000 ∨ 9999999999999 < n then 2 else if n / 10 % 7 = n % 10 then 0 else 11
def mayC (c : Int) : Bool := decide (100 ≤ c) && decide (c ≤ 999)
def mayS (s : Int) : Bool := decide (0 ≤ s) && decide (s ≤ 999999999)
def body (c s : Int) : Int := c * 1000000000 + s
def make (c s : Int) : Int := 10 * body c s + body c s % 7

def mkN (c s : Int) : Int := if (mayC c && mayS s) = true then make c s else 0
def mkE (c s : Int) : Int := if (mayC c && mayS s) = true then 0 else 2
def carr (n : Int) : Int := if check n = 0 then n / 10 / 1000000000 else 0
def seri (n : Int) : Int := if check n = 0 then n / 10 % 1000000000 else 0

theorem mayC_iff {c : Int} : mayC c = true ↔ 100 ≤ c ∧ c ≤ 999 := by unfold mayC; simp
theorem mayS_iff {c : Int} : mayS c = true ↔ 0 ≤ c ∧ c ≤ 999999999 := by unfold mayS; simp

def locByte (c : UInt8) : Bool := (65 ≤ c.toNat && c.toNat ≤ 90) || (50 ≤ c.toNat && c.toNat ≤ 57)
def loc (l : List UInt8) : Bool := l.all locByte && decide (l.length = 6)

theorem locByte_yes {c : UInt8} (h : (65 ≤ (c.toNat : Int) ∧ (c.toNat : Int) ≤ 90) ∨ (50 ≤ (c.toNat : Int) ∧ (c.toNat : Int) ≤ 57)) : locByte c = true := by
  unfold locByte; simp; omega
theorem locByte_no {c : UInt8} (h : ¬ ((65 ≤ (c.toNat : Int) ∧ (c.toNat : Int) ≤ 90) ∨ (50 ≤ (c.toNat : Int) ∧ (c.toNat : Int) ≤ 57))) : locByte c = false := by
  unfold locByte; rw [Bool.eq_false_iff]; simp; omega

/-- the text of a carrier and a serial that may be -/
def textOf (c s : Nat) : List UInt8 := (Dec.text c 3 ++ Dec.text s 9) ++ [Dec.dig ((c * 1000000000 + s) % 7)]
/-- what a text's digits are: an error's number -/
def ofE (l : List UInt8) : Int := if l.length = 13 ∧ l.all Dec.isDig = true then check (Dec.val l) else 4
def ofN (l : List UInt8) : Int := if ofE l = 0 then (Dec.val l : Int) else 0

theorem check_zero {n : Int} (h : check n = 0) : 1000000000000 ≤ n ∧ n ≤ 9999999999999 ∧ n / 10 % 7 = n % 10 := by
  unfold check at h
  split at h
  · omega
  · split at h
    · omega
    · omega
def mayStock (c f n : Int) : Bool := mayC c && mayS f && decide (1 ≤ n) && decide (n ≤ 1000000000 - f)
def inStock (c f n m : Int) : Bool := mayStock c f n && decide (carr m = c) && decide (f ≤ seri m) && decide (seri m < f + n)
theorem mayStock_iff {c f n : Int} : mayStock c f n = true ↔ (100 ≤ c ∧ c ≤ 999) ∧ (0 ≤ f ∧ f ≤ 999999999) ∧ 1 ≤ n ∧ n ≤ 1000000000 - f := by
  unfold mayStock; simp [mayC_iff, mayS_iff]; omega
theorem seri_bound (n : Int) : 0 ≤ seri n ∧ seri n ≤ 999999999 := by
  unfold seri; split <;> omega
theorem carr_bound (n : Int) : 0 ≤ carr n ∧ carr n ≤ 999 := by
  unfold carr; split
  · rename_i h; have := check_zero h; omega
  · omega
theorem textOf_length (c s : Nat) : (textOf c s).length = 13 := by simp [textOf, Dec.text_length]
theorem textOf_all (c s : Nat) : (textOf c s).all Dec.isDig = true := by simp [textOf, Dec.text_all, Dec.dig_isDig]
theorem half_val (c s : Nat) (hc : c ≤ 999) (hs : s ≤ 999999999) : Dec.val (Dec.text c 3 ++ Dec.text s 9) = c * 1000000000 + s := by
  rw [Dec.val_append, Dec.text_val, Dec.text_val, Dec.text_length]
  have e1 : c % 10 ^ 3 = c := Nat.mod_eq_of_lt (by omega)
  have e2 : s % 10 ^ 9 = s := Nat.mod_eq_of_lt (by omega)
  rw [e1, e2]
theorem textOf_val (c s : Nat) (hc : c ≤ 999) (hs : s ≤ 999999999) : Dec.val (textOf c s) = 10 * (c * 1000000000 + s) + (c * 1000000000 + s) % 7 := by
  unfold textOf
  rw [Dec.val_snoc, half_val c s hc hs, Dec.dval_dig]
  omega
theorem make_val (c s : Nat) (hc : c ≤ 999) (hs : s ≤ 999999999) : (Dec.val (textOf c s) : Int) = make c s := by
  rw [textOf_val c s hc hs]; unfold make body; omega
theorem make_parts (B : Int) (_h : 0 ≤ B) : (10 * B + B % 7) / 10 = B ∧ (10 * B + B % 7) % 10 = B % 7 := by omega
theorem make_check (c s : Int) (hc : mayC c = true) (hs : mayS s = true) : check (make c s) = 0 ∧ carr (make c s) = c ∧ seri (make c s) = s := by
  have bc := mayC_iff.1 hc
  have bs := mayS_iff.1 hs
  obtain ⟨e1, e2⟩ := make_parts (c * 1000000000 + s) (by omega)
  have h0 : check (make c s) = 0 := by unfold check make body; rw [if_neg (by omega), e1, e2, if_pos rfl]
  refine ⟨h0, ?_, ?_⟩
  · unfold carr; rw [if_pos h0]; unfold make body; rw [e1]; omega
  · unfold seri; rw [if_pos h0]; unfold make body; rw [e1]; omega
theorem make_bound (c s : Int) (hc : mayC c = true) (hs : mayS s = true) : 0 ≤ make c s ∧ make c s ≤ 9999999999999 := by
  have bc := mayC_iff.1 hc
  have bs := mayS_iff.1 hs
  unfold make body; omega
theorem digits13 {n : Nat} (h0 : 1000000000000 ≤ n) (h1 : n ≤ 9999999999999) : (Dec.digits n).length = 13 := by
  have a := Dec.digits_length_le n 12 (by omega)
  have b := Dec.digits_length_ge n 12 (by omega)
  omega
theorem digits_text {n : Nat} (h0 : 1000000000000 ≤ n) (h1 : n ≤ 9999999999999) : Dec.digits n = Dec.text n 13 := by
  rw [Dec.digits_eq_text, digits13 h0 h1]
/-- the reference's check by a number's digits is the program's by its bounds -/
theorem ofE_digits (n : Nat) : ofE (Dec.digits n) = if (Dec.digits n).length = 13 then check n else 4 := by
  unfold ofE
  rw [Dec.digits_val]
  simp [Dec.digits_all]
theorem check_far (n : Nat) (h : (Dec.digits n).length ≠ 13) : check n = 2 := by
  unfold check
  rw [if_pos]
  by_cases a : n < 1000000000000
  · omega
  · by_cases b : 9999999999999 < n
    · omega
    · exact absurd (digits13 (by omega) (by omega)) h
theorem check_ne4 (n : Int) : check n ≠ 4 := by unfold check; split <;> (try split) <;> omega

end Go.Proofs.Ytadabjkhiaidcaa.Num
end

section
set_option linter.unusedVariables false
set_option linter.unusedSimpArgs false
namespace Go.Proofs.Ytadabjkhiaidcaa
open Go.RowKit

structure Cpn where
  fl : Int
  dy : Int
  va : Int
  st : Int
  ho : Int
  nx : Int
structure Txx where
  cd : Int
  am : Int
structure Evt where
  dy : Int
  co : Int
  fr : Int
  to : Int
structure Tk where
  num : Int
  loc : ByteArray
  iss : Int
  cs : List Cpn
  ts : List Txx
  prev : Int
  org : Int
  fst : Int
  vou : Int
  posts : Int
  hs : List Evt

def Cpn.cells (c : Cpn) : List Value := [.int .i64 c.fl, .int .i64 c.dy, .int .i64 c.va, .int .i64 c.st, .int .i64 c.ho, .int .u64 c.nx]
def Txx.cells (x : Txx) : List Value := [.int .i64 x.cd, .int .i64 x.am]
def Evt.cells (x : Evt) : List Value := [.int .i64 x.dy, .int .i64 x.co, .int .i64 x.fr, .int .i64 x.to]
theorem Cpn.cells_length (c : Cpn) : c.cells.length = 6 := rfl
theorem Txx.cells_length (c : Txx) : c.cells.length = 2 := rfl
theorem Evt.cells_length (c : Evt) : c.cells.length = 4 := rfl
theorem Cpn.cells_one (c : Cpn) : ∀ u ∈ c.cells, u.oneCell' = true := by
  intro u hu; simp only [Cpn.cells, List.mem_cons, List.not_mem_nil, or_false] at hu; rcases hu with rfl | rfl | rfl | rfl | rfl | rfl <;> rfl
theorem Txx.cells_one (c : Txx) : ∀ u ∈ c.cells, u.oneCell' = true := by
  intro u hu; simp only [Txx.cells, List.mem_cons, List.not_mem_nil, or_false] at hu; rcases hu with rfl | rfl <;> rfl
theorem Evt.cells_one (c : Evt) : ∀ u ∈ c.cells, u.oneCell' = true := by
  intro u hu; simp only [Evt.cells, List.mem_cons, List.not_mem_nil, or_false] at hu; rcases hu with rfl | rfl | rfl | rfl <;> rfl
def I64 (n : Int) : Prop := -9223372036854775808 ≤ n ∧ n ≤ 9223372036854775807
def U64 (n : Int) : Prop := 0 ≤ n ∧ n ≤ 18446744073709551615
def Cpn.wf (c : Cpn) : Prop := I64 c.fl ∧ I64 c.dy ∧ I64 c.va ∧ I64 c.st ∧ I64 c.ho ∧ U64 c.nx
def Txx.wf (c : Txx) : Prop := I64 c.cd ∧ I64 c.am
def Evt.wf (c : Evt) : Prop := I64 c.dy ∧ I64 c.co ∧ I64 c.fr ∧ I64 c.to
structure Tk.wf (t : Tk) : Prop where
  num : U64 t.num
  loc : t.loc.size ≤ maxLen
  iss : I64 t.iss
  cs : ∀ c ∈ t.cs, c.wf
  ts : ∀ c ∈ t.ts, c.wf
  prev : U64 t.prev
  org : U64 t.org
  fst : U64 t.fst
  vou : I64 t.vou
  posts : I64 t.posts
  hs : ∀ c ∈ t.hs, c.wf

namespace Tkt
def dayB (n : Int) : Bool := decide (0 ≤ n) && decide (n ≤ 1000000)
def someB (n : Int) : Bool := decide (0 ≤ n) && decide (n ≤ 1000000000000)
def numB (n : Int) : Bool := decide (Num.check n = 0)
def othB (num n : Int) : Bool := numB n && !decide (n = num)
def holdB (num h : Int) : Bool := decide (101 ≤ h) && decide (h ≤ 1000) && !decide (h = Num.carr num + 1)
def withB (num s h : Int) : Bool := if s = 9 then holdB num h else if s = 5 then othB num h else decide (h = 0)
def stB (s : Int) : Bool := decide (1 ≤ s) && decide (s ≤ 9)
def cpnB (num : Int) (c : Cpn) : Bool := decide (1 ≤ c.fl) && decide (c.fl ≤ 9999) && dayB c.dy && someB c.va && stB c.st && (if c.st = 9 then holdB num c.ho else decide (c.ho = 0)) && (if c.st = 5 then othB num c.nx else decide (c.nx = 0))
/-- taxes from a code on -/
def taxB : Int → List Txx → Bool
  | _, [] => true
  | l, x :: r => decide (l ≤ x.cd) && decide (x.cd ≤ 99) && someB x.am && taxB (x.cd + 1) r
/-- what a status leads to -/
def bitsI (s : Int) : Int := if s = 1 then 996 else if s = 2 then 10 else if s = 3 then 20 else if s = 8 then 66 else if s = 9 then 18 else 0
def leadsB (a b : Int) : Bool := stB b && decide (bitsI a / 2 ^ b.toNat % 2 = 1)
def liveB (s : Int) : Bool := !decide (bitsI s = 0)
def lastB (s : Int) : Bool := stB s && decide (bitsI s = 0)
/-- what a history tells: what the coupons are now, its last day, what they were behind a day; none: a step is not as it should be -/
structure Told where
  now : List Int
  at_ : Int
  thn : List Int
def evOk (s : Told) (x : Evt) : Bool := decide (1 ≤ x.co) && decide (x.co ≤ s.now.length) && decide (s.at_ ≤ x.dy) && decide (x.dy ≤ 1000000) && decide (x.fr = s.now.getD (x.co.toNat - 1) 0) && leadsB x.fr x.to
def evDo (u : Int) (s : Told) (x : Evt) : Told := ⟨s.now.set (x.co.toNat - 1) x.to, x.dy, if x.dy ≤ u then s.thn.set (x.co.toNat - 1) x.to else s.thn⟩
def stepE (u : Int) (o : Option Told) (x : Evt) : Option Told := match o with | none => none | some s => if evOk s x = true then some (evDo u s x) else none
def told0 (n : Nat) (iss : Int) : Told := ⟨List.replicate n 1, iss, List.replicate n 1⟩
def toldE (u : Int) (n : Nat) (iss : Int) (hs : List Evt) : Option Told := hs.foldl (stepE u) (some (told0 n iss))
def thenL (u : Int) (t : Tk) : List Int := match toldE u t.cs.length t.iss t.hs with | some s => s.thn | none => []
def histB (u : Int) (t : Tk) : Bool := match toldE u t.cs.length t.iss t.hs with | some s => decide (s.now = t.cs.map (·.st)) | none => false
def headB (t : Tk) : Bool := numB t.num && Num.loc t.loc.data.toList && dayB t.iss && (if t.prev = 0 then decide (t.org = t.num) else othB t.num t.prev && othB t.num t.org) && numB t.fst && decide (0 ≤ t.vou) && decide (t.vou ≤ 1125899906842624) && decide (0 ≤ t.posts) && decide (t.posts ≤ 200)
def lensB (t : Tk) : Bool := decide (1 ≤ t.cs.length) && decide (t.cs.length ≤ 4) && decide (t.ts.length ≤ 4) && decide (t.hs.length ≤ 60)
def mayB (t : Tk) : Bool := headB t && lensB t && t.cs.all (cpnB t.num) && taxB 1 t.ts && histB 0 t

theorem evOk_now {s s' : Told} {x : Evt} (h1 : s.now = s'.now) (h2 : s.at_ = s'.at_) : evOk s x = evOk s' x := by unfold evOk; rw [h1, h2]
/-- only what was behind a day hangs on the day -/
theorem told_any (u u' : Int) (n : Nat) (iss : Int) (hs : List Evt) : (toldE u n iss hs).map (fun s => (s.now, s.at_)) = (toldE u' n iss hs).map fun s => (s.now, s.at_) := by
  have key : ∀ (hs : List Evt) (o o' : Option Told), (o.map fun s => (s.now, s.at_)) = (o'.map fun s => (s.now, s.at_)) → ((hs.foldl (stepE u) o).map fun s => (s.now, s.at_)) = ((hs.foldl (stepE u') o').map fun s => (s.now, s.at_)) := by
    intro hs
    induction hs with
    | nil => intro o o' h; exact h
    | cons x hs ih =>
      intro o o' h
      refine ih _ _ ?_
      cases o with
      | none => cases o' with
        | none => rfl
        | some s' => cases h
      | some s => cases o' with
        | none => cases h
        | some s' =>
          simp at h
          show (stepE u (some s) x).map _ = (stepE u' (some s') x).map _
          unfold stepE
          simp only
          rw [evOk_now (x := x) h.1 h.2]
          split
          · simp [evDo, h.1]
          · rfl
  exact key hs _ _ rfl
theorem histB_any (u u' : Int) (t : Tk) : histB u t = histB u' t := by
  have h := told_any u u' t.cs.length t.iss t.hs
  unfold histB
  revert h
  cases toldE u t.cs.length t.iss t.hs <;> cases toldE u' t.cs.length t.iss t.hs <;> intro h <;> simp at h ⊢
  rw [h.1]
theorem toldE_snoc (u : Int) (n : Nat) (iss : Int) (hs : List Evt) (x : Evt) : toldE u n iss (hs ++ [x]) = stepE u (toldE u n iss hs) x := by
  unfold toldE; rw [List.foldl_append]; rfl
theorem stepE_none (u : Int) (hs : List Evt) : hs.foldl (stepE u) none = none := by
  induction hs with
  | nil => rfl
  | cons x hs ih => exact ih
theorem toldE_none {u : Int} {n : Nat} {iss : Int} {hs : List Evt} (k : Nat) (h : toldE u n iss (hs.take k) = none) : toldE u n iss hs = none := by
  unfold toldE at h ⊢
  conv => lhs; rw [← List.take_append_drop k hs]
  rw [List.foldl_append, h, stepE_none]
theorem stepE_len {u : Int} {o : Option Told} {x : Evt} {s' : Told} (h : stepE u o x = some s') : ∃ s, o = some s ∧ evOk s x = true ∧ s' = evDo u s x := by
  cases o with
  | none => cases h
  | some s =>
    unfold stepE at h
    simp only at h
    split at h
    · rename_i hk
      injection h with h
      exact ⟨s, rfl, hk, h.symm⟩
    · cases h
theorem toldE_len {u : Int} {n : Nat} {iss : Int} (hs : List Evt) {s : Told} (h : toldE u n iss hs = some s) : s.now.length = n ∧ s.thn.length = n ∧ iss ≤ s.at_ := by
  have key : ∀ (l : List Evt) (o : Option Told), (∀ s, o = some s → s.now.length = n ∧ s.thn.length = n ∧ iss ≤ s.at_) → ∀ s, l.foldl (stepE u) o = some s → s.now.length = n ∧ s.thn.length = n ∧ iss ≤ s.at_ := by
    intro l
    induction l with
    | nil => intro o ho s hs; exact ho s hs
    | cons x l ih =>
      intro o ho
      refine ih _ fun s hs => ?_
      obtain ⟨s0, rfl, hk, rfl⟩ := stepE_len hs
      obtain ⟨h1, h2, h3⟩ := ho s0 rfl
      have h4 : s0.at_ ≤ x.dy := by unfold evOk at hk; simp only [Bool.and_eq_true, decide_eq_true_eq] at hk; omega
      refine ⟨by simp [evDo, h1], ?_, by simp only [evDo]; omega⟩
      simp only [evDo]; split <;> simp [h2]
  exact key hs _ (fun s e => by injection e with e; subst e; simp [told0]) s h
end Tkt
end Go.Proofs.Ytadabjkhiaidcaa
end

section
namespace Go.Proofs.Ytadabjkhiaidcaa
open Go.RowKit

theorem ret_int {k : IntKind} {a b : Int} (h : a = b) : Ending.returned (.int k a) = .returned (.int k b) := by rw [h]
theorem ret_bool {a b : Bool} (h : a = b) : Ending.returned (.bool a) = .returned (.bool b) := by rw [h]

set_option maxHeartbeats 400000 in
theorem mayCarrier_any (c : Int) (w : World) :
    Calls Try.prog 108 #[.int .i64 c] w fun e w' => e = .returned (.bool (Num.mayC c)) ∧ w = w' := by
  go_enter Try.func108, Try.ntmps108
  go_wp2
  all_goals
    go_ret
    refine ⟨ret_bool ?_, rfl⟩
    unfold Num.mayC
    simp; omega

set_option maxHeartbeats 400000 in
theorem maySerial_any (c : Int) (w : World) :
    Calls Try.prog 109 #[.int .i64 c] w fun e w' => e = .returned (.bool (Num.mayS c)) ∧ w = w' := by
  go_enter Try.func109, Try.ntmps109
  go_wp2
  all_goals
    go_ret
    refine ⟨ret_bool ?_, rfl⟩
    unfold Num.mayS
    simp; omega

set_option maxHeartbeats 400000 in
theorem check_any (n : Int) (h0 : 0 ≤ n) (hb : n ≤ 18446744073709551615) (w : World) :
    Calls Try.prog 55 #[.int .u64 n] w fun e w' => e = .returned (.int .i64 (Num.check n)) ∧ w = w' := by
  go_enter Try.func55, Try.ntmps55
  go_wp2
  all_goals
    go_ret
    refine ⟨ret_int ?_, rfl⟩
    unfold Num.check
    simp_all
    try omega

theorem ret_pair {k k' : IntKind} {a b c d : Int} (h : a = b) (h' : c = d) : Ending.returned (.tuple #[.int k a, .int k' c]) = .returned (.tuple #[.int k b, .int k' d]) := by rw [h, h']

set_option maxHeartbeats 400000 in
theorem make_any (c s : Int) (w : World) :
    Calls Try.prog 106 #[.int .i64 c, .int .i64 s] w fun e w' => e = .returned (.tuple #[.int .u64 (Num.mkN c s), .int .i64 (Num.mkE c s)]) ∧ w = w' := by
  by_cases h : (Num.mayC c && Num.mayS s) = true
  · have h1 : Num.mkN c s = Num.make c s := by unfold Num.mkN; rw [if_pos h]
    have h2 : Num.mkE c s = 0 := by unfold Num.mkE; rw [if_pos h]
    rw [h1, h2]; clear h1 h2
    rw [Bool.and_eq_true] at h
    obtain ⟨hc, hs⟩ := h
    have bc := Num.mayC_iff.1 hc
    have bs := Num.mayS_iff.1 hs
    go_enter Try.func106, Try.ntmps106
    go_wp2_with (first | (go_at_call 108; refine (mayCarrier_any _ _).mono ?_; rintro e w' ⟨rfl, rfl⟩) | (go_at_call 109; refine (maySerial_any _ _).mono ?_; rintro e w' ⟨rfl, rfl⟩))
    go_ret2
    refine ⟨ret_pair ?_ rfl, rfl⟩
    unfold Num.make Num.body
    omega
  · have h1 : Num.mkN c s = 0 := by unfold Num.mkN; rw [if_neg h]
    have h2 : Num.mkE c s = 2 := by unfold Num.mkE; rw [if_neg h]
    rw [h1, h2]; clear h1 h2
    have H := Lib.hid h; clear h
    go_enter Try.func106, Try.ntmps106
    go_wp2_with (first | (go_at_call 108; refine (mayCarrier_any _ _).mono ?_; rintro e w' ⟨rfl, rfl⟩) | (go_at_call 109; refine (maySerial_any _ _).mono ?_; rintro e w' ⟨rfl, rfl⟩))
    · go_ret2
      exact ⟨rfl, rfl⟩
    · exact absurd (by simp_all) H.out
    · go_ret2
      exact ⟨rfl, rfl⟩

set_option maxHeartbeats 400000 in
theorem parts_any (n : Int) (h0 : 0 ≤ n) (hb : n ≤ 18446744073709551615) (w : World) :
    Calls Try.prog 82 #[.int .u64 n] w fun e w' => e = .returned (.tuple #[.int .i64 (Num.carr n), .int .i64 (Num.seri n)]) ∧ w = w' := by
  go_enter Try.func82, Try.ntmps82
  go_wp2_with (first | (go_at_call 55; refine (check_any _ (by omega) (by omega) _).mono ?_; rintro e w' ⟨rfl, rfl⟩))
  all_goals
    go_ret2
    refine ⟨ret_pair ?_ ?_, rfl⟩
  all_goals
    first | unfold Num.carr | unfold Num.seri
    simp_all

set_option maxHeartbeats 400000 in
theorem carrier_any (n : Int) (h0 : 0 ≤ n) (hb : n ≤ 18446744073709551615) (w : World) :
    Calls Try.prog 56 #[.int .u64 n] w fun e w' => e = .returned (.int .i64 (Num.carr n)) ∧ w = w' := by
  go_enter Try.func56, Try.ntmps56
  go_wp2_with (first | (go_at_call 82; refine (parts_any _ h0 hb _).mono ?_; rintro e w' ⟨rfl, rfl⟩))
  go_ret
  exact ⟨rfl, rfl⟩

end Go.Proofs.Ytadabjkhiaidcaa
end

section
set_option linter.unusedSimpArgs false
set_option linter.unusedVariables false
namespace Go.Proofs.Ytadabjkhiaidcaa
open Go.RowKit

theorem iter_below (w : World) (s : ByteArray) (p : Nat) : Below w.heap.size w (w.iter s p) := (Below.refl _ _).alloc (Nat.le_refl _) _
theorem width_pos (s : ByteArray) (pos : Nat) (h : pos < s.size) : 1 ≤ (Utf8.decode s pos).2 := by
  by_cases ha : (s[pos]'h).toNat < 128
  · rw [decode_ascii s pos h ha]
    exact Nat.le_refl _
  · exact (decode_high s pos h (by omega)).2
theorem drop_step (s : ByteArray) (k : Nat) (h : k < s.size) : s.data.toList.drop k = s[k] :: s.data.toList.drop (k + 1) := by
  rw [List.drop_eq_getElem_cons (by simpa using h)]; rfl
theorem drop_end (s : ByteArray) (k : Nat) (h : ¬ k < s.size) : s.data.toList.drop k = [] := by
  apply List.drop_eq_nil_of_le; simp; omega

theorem all_step {l r : List UInt8} {c : UInt8} {b : Bool} (h : l = c :: r) (hb : Num.locByte c = b) : l.all Num.locByte = (b && r.all Num.locByte) := by rw [h, List.all_cons, hb]

def iv (c : Int) : Prop := c < 50 ∨ (50 ≤ c ∧ c ≤ 57) ∨ (57 < c ∧ c < 65) ∨ (65 ≤ c ∧ c ≤ 90) ∨ 90 < c
theorem iv_any (c : Int) : c < 50 ∨ (50 ≤ c ∧ c ≤ 57) ∨ (57 < c ∧ c < 65) ∨ (65 ≤ c ∧ c ≤ 90) ∨ 90 < c := by omega

set_option maxHeartbeats 400000 in
theorem refLocator_any (s : ByteArray) (w : World) (hs : s.size ≤ maxLen) :
    Calls Try.prog 33 #[.string s] w fun e w' => e = .returned (.bool (Num.loc s.data.toList)) ∧ w = w' := by
  unfold maxLen at hs
  go_enter Try.func33, Try.ntmps33
  go_wp2
  go_loop [3] (fun i => ∃ k : Nat, k ≤ s.size ∧ i = .int .i64 k ∧ s.data.toList.all Num.locByte = (s.data.toList.drop k).all Num.locByte) (fun i => s.size - (intOf i).toNat)
  case atStart => exact ⟨0, Nat.zero_le _, rfl, rfl⟩
  case round =>
    obtain ⟨k, hk, rfl, hall⟩ := hrel
    have HA := Lib.hid hall; clear hall
    by_cases hlt : k < s.size
    · have HD := Lib.hid (drop_step s k hlt)
      rcases iv_any (s[k].toNat : Int) with hb | ⟨hb, hb'⟩ | ⟨hb, hb'⟩ | ⟨hb, hb'⟩ | hb
      case inr.inl | inr.inr.inr.inl =>
        all_goals
          have HS := Lib.hid (all_step HD.out (Num.locByte_yes (by omega)))
          go_wp2
          go_round
          case rel => exact ⟨k + 1, by omega, by go_num, by rw [HA.out, HS.out]; rfl⟩
          case measure => simp [intOf]; omega
      all_goals
        have HS := Lib.hid (all_step HD.out (Num.locByte_no (by omega)))
        go_wp2
      all_goals first
        | (go_ret; exact ⟨ret_bool (by unfold Num.loc; rw [HA.out, HS.out]; rfl), rfl⟩)
        | (exfalso; simp only [Bool.not_eq_eq_eq_not, Bool.not_false, Bool.not_true, decide_eq_true_eq, decide_eq_false_iff_not] at *; omega)
    · have HD := Lib.hid (drop_end s k hlt)
      go_wp2
      go_ret
      refine ⟨ret_bool ?_, rfl⟩
      unfold Num.loc
      rw [HA.out, HD.out]
      rw [Bool.eq_iff_iff]; simp; omega

set_option maxHeartbeats 400000 in
theorem locator_any (s : ByteArray) (w : World) (hs : s.size ≤ maxLen) :
    Calls Try.prog 23 #[.string s] w fun e w' => e = .returned (.bool (Num.loc s.data.toList)) ∧ Below w.heap.size w w' := by
  unfold maxLen at hs
  go_enter Try.func23, Try.ntmps23
  go_wp2
  go_loopw [4] (fun _ w' => ∃ k : Nat, k ≤ s.size ∧ w' = w.iter s k ∧ s.data.toList.all Num.locByte = (s.data.toList.drop k).all Num.locByte) (fun _ w' => s.size - w'.iterPos w.heap.size)
  case atStart => exact ⟨0, Nat.zero_le _, rfl, rfl⟩
  case round =>
    obtain ⟨k, hk, rfl, hall⟩ := hrel
    have HA := Lib.hid hall; clear hall
    by_cases hlt : k < s.size
    · have HD := Lib.hid (drop_step s k hlt)
      by_cases ha : (s[k]'hlt).toNat < 128
      · have hnx : ∀ ty, (Instr.next (.pointer (some ⟨w.heap.size, 0, none⟩)) true ty).run Try.prog (w.iter s k) = _ := fun ty => run_next_ascii w s k ty hlt ha
        rcases iv_any (s[k].toNat : Int) with hb | ⟨hb, hb'⟩ | ⟨hb, hb'⟩ | ⟨hb, hb'⟩ | hb
        case inr.inl | inr.inr.inr.inl =>
          all_goals
            have HS := Lib.hid (all_step HD.out (Num.locByte_yes (by omega)))
            go_wp2
            go_roundw
            case rel => exact ⟨k + 1, by omega, rfl, by rw [HA.out, HS.out]; rfl⟩
            case measure => simp; omega
        all_goals
          have HS := Lib.hid (all_step HD.out (Num.locByte_no (by omega)))
          go_wp2
          go_ret
          exact ⟨ret_bool (by unfold Num.loc; rw [HA.out, HS.out]; rfl), iter_below _ _ _⟩
      · have hnx : ∀ ty, (Instr.next (.pointer (some ⟨w.heap.size, 0, none⟩)) true ty).run Try.prog (w.iter s k) = _ := fun ty => run_next_any w s k ty hlt
        have hh := (decode_high s k hlt (by omega)).1
        have HS := Lib.hid (all_step HD.out (Num.locByte_no (by omega)))
        go_wp2
        all_goals
          go_ret
          exact ⟨ret_bool (by unfold Num.loc; rw [HA.out, HS.out]; rfl), iter_below _ _ _⟩
    · have hnx : ∀ ty, (Instr.next (.pointer (some ⟨w.heap.size, 0, none⟩)) true ty).run Try.prog (w.iter s k) = _ := fun ty => run_next_end w s k ty hlt
      have HD := Lib.hid (drop_end s k hlt)
      go_wp2
      go_ret
      refine ⟨ret_bool ?_, iter_below _ _ _⟩
      unfold Num.loc
      rw [HA.out, HD.out]
      rw [Bool.eq_iff_iff]; simp; omega

end Go.Proofs.Ytadabjkhiaidcaa
end
