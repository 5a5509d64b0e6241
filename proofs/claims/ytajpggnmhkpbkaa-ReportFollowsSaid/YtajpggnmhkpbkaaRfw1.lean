/- Plain facts on decimal digits as bytes; no program in sight. Plain definitions and facts on ticket numbers; no program in sight. -/
import GoSem.Core.Value

section
namespace Go.Proofs.Ytajpggnmhkpbkaa.Dec

def isDig (c : UInt8) : Bool := 48 ≤ c.toNat && c.toNat ≤ 57
def dval (c : UInt8) : Nat := c.toNat - 48
def dig (n : Nat) : UInt8 := UInt8.ofNat (48 + n % 10)
def vstep (a : Nat) (c : UInt8) : Nat := 10 * a + dval c
def valF (a : Nat) (l : List UInt8) : Nat := l.foldl vstep a
def val (l : List UInt8) : Nat := valF 0 l
/-- so many digits of a number, the last ones -/
def text : Nat → Nat → List UInt8
  | _, 0 => []
  | n, k + 1 => text (n / 10) k ++ [dig n]
/-- a number's digits, as few as can be -/
def digits (n : Nat) : List UInt8 :=
  if n < 10 then [dig n] else digits (n / 10) ++ [dig n]
termination_by n
decreasing_by omega

theorem isDig_iff {c : UInt8} : isDig c = true ↔ 48 ≤ c.toNat ∧ c.toNat ≤ 57 := by unfold isDig; simp
theorem dig_toNat (n : Nat) : (dig n).toNat = 48 + n % 10 := by unfold dig; rw [UInt8.toNat_ofNat']; omega
theorem dig_isDig (n : Nat) : isDig (dig n) = true := by rw [isDig_iff, dig_toNat]; omega
theorem dval_dig (n : Nat) : dval (dig n) = n % 10 := by unfold dval; rw [dig_toNat]; omega
theorem dval_le {c : UInt8} (h : isDig c = true) : dval c ≤ 9 := by rw [isDig_iff] at h; unfold dval; omega
theorem dig_dval {c : UInt8} (h : isDig c = true) : dig (dval c) = c := by
  rw [isDig_iff] at h
  apply UInt8.toNat_inj.1
  rw [dig_toNat]; unfold dval; omega

theorem snocRec {α : Type} {M : List α → Prop} (h0 : M []) (h1 : ∀ l c, M l → M (l ++ [c])) (l : List α) : M l := by
  have h : ∀ r : List α, M r.reverse := by
    intro r
    induction r with
    | nil => exact h0
    | cons c r ih => rw [List.reverse_cons]; exact h1 _ _ ih
  have := h l.reverse
  rwa [List.reverse_reverse] at this
theorem valF_cons (a : Nat) (c : UInt8) (l : List UInt8) : valF a (c :: l) = valF (10 * a + dval c) l := by unfold valF; rw [List.foldl_cons]; simp only [vstep]
theorem valF_append (a : Nat) (l r : List UInt8) : valF a (l ++ r) = valF (valF a l) r := by unfold valF; rw [List.foldl_append]
theorem val_snoc (l : List UInt8) (c : UInt8) : val (l ++ [c]) = 10 * val l + dval c := by unfold val; rw [valF_append, valF_cons]; simp only [valF, List.foldl_nil]
theorem valF_lin (a : Nat) (l : List UInt8) : valF a l = a * 10 ^ l.length + val l := by
  induction l generalizing a with
  | nil => simp [valF, val]
  | cons c l ih =>
    have h1 := ih (10 * a + dval c)
    have h2 := ih (10 * 0 + dval c)
    unfold val
    rw [valF_cons, valF_cons, h1, h2, List.length_cons, Nat.pow_succ]
    rw [Nat.add_mul]
    have e1 : 10 * a * 10 ^ l.length = a * (10 ^ l.length * 10) := by rw [Nat.mul_comm 10 a, Nat.mul_assoc, Nat.mul_comm 10]
    have e2 : (10 * 0 + dval c) * 10 ^ l.length = dval c * 10 ^ l.length := by rw [Nat.mul_zero, Nat.zero_add]
    omega
theorem val_append (l r : List UInt8) : val (l ++ r) = val l * 10 ^ r.length + val r := by
  unfold val; rw [valF_append, valF_lin]; rfl
theorem val_lt (l : List UInt8) (h : l.all isDig = true) : val l < 10 ^ l.length := by
  induction l using snocRec with
  | h0 => simp [val, valF]
  | h1 l c ih =>
    rw [List.all_append, Bool.and_eq_true] at h
    have h1 := ih h.1
    have h2 := dval_le (c := c) (by simpa using h.2)
    rw [val_snoc, List.length_append, List.length_singleton, Nat.pow_succ]
    omega

theorem text_length (n k : Nat) : (text n k).length = k := by
  induction k generalizing n with
  | zero => rfl
  | succ k ih => simp [text, ih]
theorem text_all (n k : Nat) : (text n k).all isDig = true := by
  induction k generalizing n with
  | zero => rfl
  | succ k ih => simp only [text, List.all_append, ih, Bool.true_and, List.all_cons, List.all_nil, dig_isDig]
theorem text_val (n k : Nat) : val (text n k) = n % 10 ^ k := by
  induction k generalizing n with
  | zero => simp [text, val, valF, Nat.mod_one]
  | succ k ih =>
    simp only [text]
    rw [val_snoc, ih, dval_dig, Nat.pow_succ, Nat.mul_comm (10 ^ k) 10]
    have := Nat.mod_mul_right_div_self n 10 (10 ^ k)
    have h2 := Nat.div_add_mod (n % (10 * 10 ^ k)) 10
    have h3 : n % (10 * 10 ^ k) % 10 = n % 10 := Nat.mod_mul_right_mod n 10 (10 ^ k)
    omega
theorem val_text (l : List UInt8) (h : l.all isDig = true) : text (val l) l.length = l := by
  induction l using snocRec with
  | h0 => rfl
  | h1 l c ih =>
    rw [List.all_append, Bool.and_eq_true] at h
    have hc : isDig c = true := by simpa using h.2
    have h1 := ih h.1
    have h2 := dval_le hc
    rw [List.length_append, List.length_singleton]
    show text (val (l ++ [c]) / 10) l.length ++ [dig (val (l ++ [c]))] = _
    rw [val_snoc]
    have e1 : (10 * val l + dval c) / 10 = val l := by omega
    have e2 : dig (10 * val l + dval c) = c := by
      have : dig (10 * val l + dval c) = dig (dval c) := by unfold dig; congr 2; omega
      rw [this, dig_dval hc]
    rw [e1, e2, h1]
theorem digits_lt {n : Nat} (h : n < 10) : digits n = [dig n] := by rw [digits, if_pos h]
theorem digits_ge {n : Nat} (h : ¬ n < 10) : digits n = digits (n / 10) ++ [dig n] := by rw [digits, if_neg h]
theorem digits_ne (n : Nat) : digits n ≠ [] := by
  by_cases h : n < 10
  · rw [digits_lt h]; simp
  · rw [digits_ge h]; simp
theorem digits_eq_text (n : Nat) : digits n = text n (digits n).length := by
  induction n using Nat.strongRecOn with
  | _ n ih =>
    by_cases h : n < 10
    · rw [digits_lt h]; simp [text]
    · rw [digits_ge h, List.length_append, List.length_singleton]
      show _ = text (n / 10) _ ++ [dig n]
      rw [← ih (n / 10) (by omega)]
theorem digits_all (n : Nat) : (digits n).all isDig = true := by rw [digits_eq_text]; exact text_all _ _
/-- how many digits: k + 1 just if 10^k ≤ n < 10^(k+1) (k > 0) -/
theorem digits_length_le (n k : Nat) (h : n < 10 ^ (k + 1)) : (digits n).length ≤ k + 1 := by
  induction k generalizing n with
  | zero => rw [digits_lt (by simpa using h)]; simp
  | succ k ih =>
    by_cases hn : n < 10
    · rw [digits_lt hn]; simp
    · rw [digits_ge hn, List.length_append, List.length_singleton]
      have := ih (n / 10) (by rw [Nat.pow_succ] at h; omega)
      omega
theorem digits_length_ge (n k : Nat) (h : 10 ^ k ≤ n) : k + 1 ≤ (digits n).length := by
  induction k generalizing n with
  | zero =>
    have := digits_ne n
    cases hd : digits n with
    | nil => exact absurd hd this
    | cons a l => simp
  | succ k ih =>
    have hp : 1 ≤ 10 ^ k := Nat.one_le_pow _ _ (by decide)
    have hn : ¬ n < 10 := by rw [Nat.pow_succ] at h; omega
    rw [digits_ge hn, List.length_append, List.length_singleton]
    have := ih (n / 10) (by rw [Nat.pow_succ] at h; omega)
    omega
theorem digits_val (n : Nat) : val (digits n) = n := by
  induction n using Nat.strongRecOn with
  | _ n ih =>
    by_cases h : n < 10
    · rw [digits_lt h]; show 10 * 0 + dval (dig n) = n; rw [dval_dig]; omega
    · rw [digits_ge h, val_snoc, ih (n / 10) (by omega), dval_dig]; omega
/-- the loop that writes a number's digits from the last one on: its state behind a round -/
def Dst (N N' : Nat) (acc : List UInt8) : Prop := (acc = [] ∧ N' = N) ∨ (acc.isEmpty = false ∧ 0 < N' ∧ digits N = digits N' ++ acc) ∨ (acc.isEmpty = false ∧ N' = 0 ∧ digits N = acc)
theorem digits_step {N N' : Nat} {acc : List UInt8} (h : digits N = digits N' ++ acc) : Dst N (N' / 10) (dig N' :: acc) := by
  by_cases h10 : N' < 10
  · refine .inr (.inr ⟨rfl, by omega, ?_⟩)
    rw [h, digits_lt h10]; rfl
  · refine .inr (.inl ⟨rfl, by omega, ?_⟩)
    rw [h, digits_ge h10]; simp
theorem text_split (n k j : Nat) : text n (k + j) = text (n / 10 ^ j) k ++ text n j := by
  induction j generalizing n with
  | zero => simp [text]
  | succ j ih =>
    show text (n / 10) (k + j) ++ [dig n] = _ ++ (text (n / 10) j ++ [dig n])
    rw [ih (n / 10), Nat.div_div_eq_div_mul, Nat.pow_succ, Nat.mul_comm (10 ^ j) 10, List.append_assoc]
theorem text_take (n k j : Nat) : (text n (k + j)).take k = text (n / 10 ^ j) k := by
  rw [text_split, List.take_append_of_le_length (by rw [text_length]; exact Nat.le_refl _), List.take_of_length_le (by rw [text_length]; exact Nat.le_refl _)]
theorem text_drop (n k j : Nat) : (text n (k + j)).drop k = text n j := by
  rw [text_split, List.drop_append_of_le_length (by rw [text_length]; exact Nat.le_refl _), List.drop_of_length_le (by rw [text_length]; exact Nat.le_refl _)]; rfl
end Go.Proofs.Ytajpggnmhkpbkaa.Dec
end

section
namespace Go.Proofs.Ytajpggnmhkpbkaa.Num

def check (n : Int) : Int := if n < 1000000000000 ∨ 9999999999999 < n then 2 else if n / 10 % 7 = n % 10 then 0 else 11
def mayC (c : Int) : Bool := decide (100 ≤ c) && decide (c ≤ 999)
def mayS (s : Int) : Bool := decide (0 ≤ s) && decide (s ≤ 999999999)
def body (c s : Int) : Int := c * 1000000000 + s
def make (c s : Int) : Int := 10 * body c s + body c s % 7

def mkN (c s : Int) : Int := if (mayC c && mayS s) = true then make c s else 0
def mkE (c s : Int) : Int := if (mayC c && mayS s) = true then 0 else 2
def carr (n : Int) : Int := if check n = 0 then n / 10 / 1000000000 else 0
def seri (n : Int) : Int := if check n = 0 then n / 10 % 1000000000 else 0

theorem mayC_iff {c : Int} : mayC c = true ↔ 100 ≤ c ∧ c ≤ 999 := by unfold mayC; simp
theorem mayS_iff {c : Int} : mayS c = true ↔ 0 ≤ c ∧ c ≤ 999999999 := by unfold mayS; simp

def locByte (c : UInt8) : Bool := (65 ≤ c.toNat && c.toNat ≤ 90) || (50 ≤ c.toNat && c.toNat ≤ 57)
def loc (l : List UInt8) : Bool := l.all locByte && decide (l.length = 6)

theorem locByte_yes {c : UInt8} (h : (65 ≤ (c.toNat : Int) ∧ (c.toNat : Int) ≤ 90) ∨ (50 ≤ (c.toNat : Int) ∧ (c.toNat : Int) ≤ 57)) : locByte c = true := by
  unfold locByte; simp; omega
theorem locByte_no {c : UInt8} (h : ¬ ((65 ≤ (c.toNat : Int) ∧ (c.toNat : Int) ≤ 90) ∨ (50 ≤ (c.toNat : Int) ∧ (c.toNat : Int) ≤ 57))) : locByte c = false := by
  unfold locByte; rw [Bool.eq_false_iff]; simp; omega

/-- the text of a carrier and a serial that may be -/
def textOf (c s : Nat) : List UInt8 := (Dec.text c 3 ++ Dec.text s 9) ++ [Dec.dig ((c * 1000000000 + s) % 7)]
/-- what a text's digits are: an error's number -/
def ofE (l : List UInt8) : Int := if l.length = 13 ∧ l.all Dec.isDig = true then check (Dec.val l) else 4
def ofN (l : List UInt8) : Int := if ofE l = 0 then (Dec.val l : Int) else 0

theorem check_zero {n : Int} (h : check n = 0) : 1000000000000 ≤ n ∧ n ≤ 9999999999999 ∧ n / 10 % 7 = n % 10 := by
  unfold check at h
  split at h
  · omega
  · split at h
    · omega
    · omega
def mayStock (c f n : Int) : Bool := mayC c && mayS f && decide (1 ≤ n) && decide (n ≤ 1000000000 - f)
def inStock (c f n m : Int) : Bool := mayStock c f n && decide (carr m = c) && decide (f ≤ seri m) && decide (seri m < f + n)
theorem mayStock_iff {c f n : Int} : mayStock c f n = true ↔ (100 ≤ c ∧ c ≤ 999) ∧ (0 ≤ f ∧ f ≤ 999999999) ∧ 1 ≤ n ∧ n ≤ 1000000000 - f := by
  unfold mayStock; simp [mayC_iff, mayS_iff]; omega
theorem seri_bound (n : Int) : 0 ≤ seri n ∧ seri n ≤ 999999999 := by
  unfold seri; split <;> omega
theorem carr_bound (n : Int) : 0 ≤ carr n ∧ carr n ≤ 999 := by
  unfold carr; split
  · rename_i h; have := check_zero h; omega
  · omega
theorem textOf_length (c s : Nat) : (textOf c s).length = 13 := by simp [textOf, Dec.text_length]
theorem textOf_all (c s : Nat) : (textOf c s).all Dec.isDig = true := by simp [textOf, Dec.text_all, Dec.dig_isDig]
theorem half_val (c s : Nat) (hc : c ≤ 999) (hs : s ≤ 999999999) : Dec.val (Dec.text c 3 ++ Dec.text s 9) = c * 1000000000 + s := by
  rw [Dec.val_append, Dec.text_val, Dec.text_val, Dec.text_length]
  have e1 : c % 10 ^ 3 = c := Nat.mod_eq_of_lt (by omega)
  have e2 : s % 10 ^ 9 = s := Nat.mod_eq_of_lt (by omega)
  rw [e1, e2]
theorem textOf_val (c s : Nat) (hc : c ≤ 999) (hs : s ≤ 999999999) : Dec.val (textOf c s) = 10 * (c * 1000000000 + s) + (c * 1000000000 + s) % 7 := by
  unfold textOf
  rw [Dec.val_snoc, half_val c s hc hs, Dec.dval_dig]
  omega
theorem make_val (c s : Nat) (hc : c ≤ 999) (hs : s ≤ 999999999) : (Dec.val (textOf c s) : Int) = make c s := by
  rw [textOf_val c s hc hs]; unfold make body; omega
theorem make_parts (B : Int) (_h : 0 ≤ B) : (10 * B + B % 7) / 10 = B ∧ (10 * B + B % 7) % 10 = B % 7 := by omega
theorem make_check (c s : Int) (hc : mayC c = true) (hs : mayS s = true) : check (make c s) = 0 ∧ carr (make c s) = c ∧ seri (make c s) = s := by
  have bc := mayC_iff.1 hc
  have bs := mayS_iff.1 hs
  obtain ⟨e1, e2⟩ := make_parts (c * 1000000000 + s) (by omega)
  have h0 : check (make c s) = 0 := by unfold check make body; rw [if_neg (by omega), e1, e2, if_pos rfl]
  refine ⟨h0, ?_, ?_⟩
  · unfold carr; rw [if_pos h0]; unfold make body; rw [e1]; omega
  · unfold seri; rw [if_pos h0]; unfold make body; rw [e1]; omega
theorem make_bound (c s : Int) (hc : mayC c = true) (hs : mayS s = true) : 0 ≤ make c s ∧ make c s ≤ 9999999999999 := by
  have bc := mayC_iff.1 hc
  have bs := mayS_iff.1 hs
  unfold make body; omega
theorem digits13 {n : Nat} (h0 : 1000000000000 ≤ n) (h1 : n ≤ 9999999999999) : (Dec.digits n).length = 13 := by
  have a := Dec.digits_length_le n 12 (by omega)
  have b := Dec.digits_length_ge n 12 (by omega)
  omega
theorem digits_text {n : Nat} (h0 : 1000000000000 ≤ n) (h1 : n ≤ 9999999999999) : Dec.digits n = Dec.text n 13 := by
  rw [Dec.digits_eq_text, digits13 h0 h1]
/-- the reference's check by a number's digits is the program's by its bounds -/
theorem ofE_digits (n : Nat) : ofE (Dec.digits n) = if (Dec.digits n).length = 13 then check n else 4 := by
  unfold ofE
  rw [Dec.digits_val]
  simp [Dec.digits_all]
theorem check_far (n : Nat) (h : (Dec.digits n).length ≠ 13) : check n = 2 := by
  unfold check
  rw [if_pos]
  by_cases a : n < 1000000000000
  · omega
  · by_cases b : 9999999999999 < n
    · omega
    · exact absurd (digits13 (by omega) (by omega)) h
theorem check_ne4 (n : Int) : check n ≠ 4 := by unfold check; split <;> (try split) <;> omega

end Go.Proofs.Ytajpggnmhkpbkaa.Num
end
