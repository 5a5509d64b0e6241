/- Plain definitions and facts on ticket numbers; no program in sight. Plain definitions and facts on postings; no program in sight. -/
import GoSem.Core.Value
import Derived.Test.YtellhmbebimenaaDoorPb1

section
namespace Go.Proofs.YtellhmbebimenaaDoor.Num

def check (n : Int) : Int := if n < 1000000000000 ∨ 9999999999999 < n then 2 else if n / 10 % 7 = n % 10 then 0 else 11
def mayC (c : Int) : Bool := decide (100 ≤ c) && decide (c ≤ 999)
def mayS (s : Int) : Bool := decide (0 ≤ s) && decide (s ≤ 999999999)
def body (c s : Int) : Int := c * 1000000000 + s
def make (c s : Int) : Int := 10 * body c s + body c s % 7

def mkN (c s : Int) : Int := if (mayC c && mayS s) = true then make c s else 0
def mkE (c s : Int) : Int := if (mayC c && mayS s) = true then 0 else 2
def carr (n : Int) : Int := if check n = 0 then n / 10 / 1000000000 else 0
def seri (n : Int) : Int := if check n = 0 then n / 10 % 1000000000 else 0

theorem mayC_iff {c : Int} : mayC c = true ↔ 100 ≤ c ∧ c ≤ 999 := by unfold mayC; simp
theorem mayS_iff {c : Int} : mayS c = true ↔ 0 ≤ c ∧ c ≤ 999999999 := by unfold mayS; simp

def locByte (c : UInt8) : Bool := (65 ≤ c.toNat && c.toNat ≤ 90) || (50 ≤ c.toNat && c.toNat ≤ 57)
def loc (l : List UInt8) : Bool := l.all locByte && decide (l.length = 6)

theorem locByte_yes {c : UInt8} (h : (65 ≤ (c.toNat : Int) ∧ (c.toNat : Int) ≤ 90) ∨ (50 ≤ (c.toNat : Int) ∧ (c.toNat : Int) ≤ 57)) : locByte c = true := by
  unfold locByte; simp; omega
theorem locByte_no {c : UInt8} (h : ¬ ((65 ≤ (c.toNat : Int) ∧ (c.toNat : Int) ≤ 90) ∨ (50 ≤ (c.toNat : Int) ∧ (c.toNat : Int) ≤ 57))) : locByte c = false := by
  unfold locByte; rw [Bool.eq_false_iff]; simp; omega

/-- the text of a carrier and a serial that may be -/
def textOf (c s : Nat) : List UInt8 := (Dec.text c 3 ++ Dec.text s 9) ++ [Dec.dig ((c * 1000000000 + s) % 7)]
/-- what a text's digits are: an error's number -/
def ofE (l : List UInt8) : Int := if l.length = 13 ∧ l.all Dec.isDig = true then check (Dec.val l) else 4
def ofN (l : List UInt8) : Int := if ofE l = 0 then (Dec.val l : Int) else 0

theorem check_zero {n : Int} (h : check n = 0) : 1000000000000 ≤ n ∧ n ≤ 9999999999999 ∧ n / 10 % 7 = n % 10 := by
  unfold check at h
  split at h
  · omega
  · split at h
    · omega
    · omega
def mayStock (c f n : Int) : Bool := mayC c && mayS f && decide (1 ≤ n) && decide (n ≤ 1000000000 - f)
def inStock (c f n m : Int) : Bool := mayStock c f n && decide (carr m = c) && decide (f ≤ seri m) && decide (seri m < f + n)
theorem mayStock_iff {c f n : Int} : mayStock c f n = true ↔ (100 ≤ c ∧ c ≤ 999) ∧ (0 ≤ f ∧ f ≤ 999999999) ∧ 1 ≤ n ∧ n ≤ 1000000000 - f := by
  unfold mayStock; simp [mayC_iff, mayS_iff]; omega
theorem seri_bound (n : Int) : 0 ≤ seri n ∧ seri n ≤ 999999999 := by
  unfold seri; split <;> omega
theorem carr_bound (n : Int) : 0 ≤ carr n ∧ carr n ≤ 999 := by
  unfold carr; split
  · rename_i h; have := check_zero h; omega
  · omega
theorem textOf_length (c s : Nat) : (textOf c s).length = 13 := by simp [textOf, Dec.text_length]
theorem textOf_all (c s : Nat) : (textOf c s).all Dec.isDig = true := by simp [textOf, Dec.text_all, Dec.dig_isDig]
theorem half_val (c s : Nat) (hc : c ≤ 999) (hs : s ≤ 999999999) : Dec.val (Dec.text c 3 ++ Dec.text s 9) = c * 1000000000 + s := by
  rw [Dec.val_append, Dec.text_val, Dec.text_val, Dec.text_length]
  have e1 : c % 10 ^ 3 = c := Nat.mod_eq_of_lt (by omega)
  have e2 : s % 10 ^ 9 = s := Nat.mod_eq_of_lt (by omega)
  rw [e1, e2]
theorem textOf_val (c s : Nat) (hc : c ≤ 999) (hs : s ≤ 999999999) : Dec.val (textOf c s) = 10 * (c * 1000000000 + s) + (c * 1000000000 + s) % 7 := by
  unfold textOf
  rw [Dec.val_snoc, half_val c s hc hs, Dec.dval_dig]
  omega
theorem make_val (c s : Nat) (hc : c ≤ 999) (hs : s ≤ 999999999) : (Dec.val (textOf c s) : Int) = make c s := by
  rw [textOf_val c s hc hs]; unfold make body; omega
theorem make_parts (B : Int) (_h : 0 ≤ B) : (10 * B + B % 7) / 10 = B ∧ (10 * B + B % 7) % 10 = B % 7 := by omega
theorem make_check (c s : Int) (hc : mayC c = true) (hs : mayS s = true) : check (make c s) = 0 ∧ carr (make c s) = c ∧ seri (make c s) = s := by
  have bc := mayC_iff.1 hc
  have bs := mayS_iff.1 hs
  obtain ⟨e1, e2⟩ := make_parts (c * 1000000000 + s) (by omega)
  have h0 : check (make c s) = 0 := by unfold check make body; rw [if_neg (by omega), e1, e2, if_pos rfl]
  refine ⟨h0, ?_, ?_⟩
  · unfold carr; rw [if_pos h0]; unfold make body; rw [e1]; omega
  · unfold seri; rw [if_pos h0]; unfold make body; rw [e1]; omega
theorem make_bound (c s : Int) (hc : mayC c = true) (hs : mayS s = true) : 0 ≤ make c s ∧ make c s ≤ 9999999999999 := by
  have bc := mayC_iff.1 hc
  have bs := mayS_iff.1 hs
  unfold make body; omega
theorem digits13 {n : Nat} (h0 : 1000000000000 ≤ n) (h1 : n ≤ 9999999999999) : (Dec.digits n).length = 13 := by
  have a := Dec.digits_length_le n 12 (by omega)
  have b := Dec.digits_length_ge n 12 (by omega)
  omega
theorem digits_text {n : Nat} (h0 : 1000000000000 ≤ n) (h1 : n ≤ 9999999999999) : Dec.digits n = Dec.text n 13 := by
  rw [Dec.digits_eq_text, digits13 h0 h1]
/-- the reference's check by a number's digits is the program's by its bounds -/
theorem ofE_digits (n : Nat) : ofE (Dec.digits n) = if (Dec.digits n).length = 13 then check n else 4 := by
  unfold ofE
  rw [Dec.digits_val]
  simp [Dec.digits_all]
theorem check_far (n : Nat) (h : (Dec.digits n).length ≠ 13) : check n = 2 := by
  unfold check
  rw [if_pos]
  by_cases a : n < 1000000000000
  · omega
  · by_cases b : 9999999999999 < n
    · omega
    · exact absurd (digits13 (by omega) (by omega)) h
theorem check_ne4 (n : Int) : check n ≠ 4 := by unfold check; split <;> (try split) <;> omega

end Go.Proofs.YtellhmbebimenaaDoor.Num
end

section
namespace Go.Proofs.YtellhmbebimenaaDoor.Post

/-- six amounts as cells -/
def amRow (am : List Int) : Array Value := (am.map (Value.int .i64)).toArray
theorem amRow_size (am : List Int) : (amRow am).size = am.length := by simp [amRow]
theorem amRow_at {am : List Int} {j : Nat} (h : j < am.length) : (amRow am)[j]? = some (.int .i64 (am.getD j 0)) := by
  unfold amRow; simp [h]
def outB (bd : Int) (n : Int) : Bool := decide (n < -bd) || decide (bd < n)
def idxOut (bd : Int) : List Int → Int → Int
  | [], _ => -1
  | z :: zs, i => if outB bd z = true then i else idxOut bd zs (i + 1)
def fit (c : UInt8) (n : Int) : Bool :=
  if c.toNat = 43 then decide (0 ≤ n) else if c.toNat = 45 then decide (n ≤ 0) else if c.toNat = 48 then decide (n = 0) else true
/-- what a kind's six amounts are like -/
def signs (k : Int) : List UInt8 :=
  if k = 1 then [43, 45, 48, 45, 48, 48] else if k = 2 then [45, 43, 48, 43, 48, 48] else if k = 3 then [48, 43, 45, 48, 48, 48]
  else if k = 4 then [45, 43, 48, 43, 45, 48] else if k = 5 then [43, 42, 48, 42, 45, 45] else []
def name (k : Int) : List UInt8 :=
  if k = 1 then [105, 115, 115, 117, 101] else if k = 2 then [118, 111, 105, 100] else if k = 3 then [102, 108, 121]
  else if k = 4 then [114, 101, 102, 117, 110, 100] else if k = 5 then [101, 120, 99, 104, 97, 110, 103, 101] else []
def fitAll : List UInt8 → List Int → Bool
  | c :: cs, n :: ns => fit c n && fitAll cs ns
  | _, _ => true
def sum : List Int → Int
  | [] => 0
  | n :: ns => n + sum ns
def cols (k : Int) (am : List Int) : Bool :=
  !(am.any (outB 1125899906842624)) && fitAll (signs k) am && decide (sum am = 0) && !(decide (k = 5) && decide (am.getD 0 0 ≠ 0) && decide (am.getD 5 0 ≠ 0))
def may (d t s k : Int) (am : List Int) : Bool :=
  decide (1 ≤ k) && decide (k ≤ 5) && cols k am && decide (0 ≤ d) && decide (d ≤ 1000000) && decide (1 ≤ s) && decide (s ≤ 200) && decide (Num.check t = 0)

theorem idxOut_any (bd : Int) (zs : List Int) (i : Int) (hi : 0 ≤ i) : decide (0 ≤ idxOut bd zs i) = zs.any (outB bd) := by
  induction zs generalizing i with
  | nil => simp [idxOut]
  | cons z zs ih =>
    unfold idxOut
    by_cases h : outB bd z = true
    · rw [if_pos h]; simp [h, hi]
    · rw [if_neg h, ih (i + 1) (by omega)]; simp [h]
theorem idxOut_miss {bd z : Int} (h : outB bd z = false) (zs : List Int) (i : Int) : idxOut bd (z :: zs) i = idxOut bd zs (i + 1) := by
  show (if outB bd z = true then i else idxOut bd zs (i + 1)) = _
  rw [h]; rfl
theorem idxOut_hit {bd z : Int} (h : outB bd z = true) (zs : List Int) (i : Int) : idxOut bd (z :: zs) i = i := by
  show (if outB bd z = true then i else idxOut bd zs (i + 1)) = _
  rw [h]; rfl
theorem fitAll_step {c : UInt8} {n : Int} {b : Bool} (h : fit c n = b) (cs : List UInt8) (ns : List Int) : fitAll (c :: cs) (n :: ns) = (b && fitAll cs ns) := by
  show (fit c n && fitAll cs ns) = _
  rw [h]
theorem sum_cons (n : Int) (ns : List Int) : sum (n :: ns) = n + sum ns := rfl
theorem any_in {bd : Int} {l : List Int} (h : l.any (outB bd) = false) {z : Int} (hz : z ∈ l) : -bd ≤ z ∧ z ≤ bd := by
  have := List.any_eq_false.1 h z hz
  unfold outB at this
  simp at this
  omega
/-- the reference's tables: may a kind's amounts be below 0, above 0 -/
def belowRow (k : Int) : List Bool :=
  if k = 1 then [false, true, false, true, false, false] else if k = 2 then [true, false, false, false, false, false] else if k = 3 then [false, false, true, false, false, false]
  else if k = 4 then [true, false, false, false, true, false] else [false, true, false, true, true, true]
def aboveRow (k : Int) : List Bool :=
  if k = 1 then [true, false, false, false, false, false] else if k = 2 then [false, true, false, true, false, false] else if k = 3 then [false, true, false, false, false, false]
  else if k = 4 then [false, true, false, true, false, false] else [true, true, false, true, false, false]
theorem fit_tables {k : Int} (h1 : 1 ≤ k) (h5 : k ≤ 5) (i : Nat) (hi : i < 6) (n : Int) :
    fit ((signs k).getD i 0) n = !((decide (n < 0) && !(belowRow k).getD i false) || (decide (0 < n) && !(aboveRow k).getD i false)) := by
  rcases (by omega : k = 1 ∨ k = 2 ∨ k = 3 ∨ k = 4 ∨ k = 5) with rfl | rfl | rfl | rfl | rfl <;>
    rcases (by omega : i = 0 ∨ i = 1 ∨ i = 2 ∨ i = 3 ∨ i = 4 ∨ i = 5) with rfl | rfl | rfl | rfl | rfl | rfl <;>
    (rw [Bool.eq_iff_iff]; simp [fit, signs, belowRow, aboveRow]; try omega)
theorem any_step {bd z : Int} {b : Bool} (h : outB bd z = b) (ns : List Int) : (z :: ns).any (outB bd) = (b || ns.any (outB bd)) := by rw [List.any_cons, h]
theorem signs_len {k : Int} (h1 : 1 ≤ k) (h5 : k ≤ 5) : (signs k).length = 6 := by
  rcases (by omega : k = 1 ∨ k = 2 ∨ k = 3 ∨ k = 4 ∨ k = 5) with rfl | rfl | rfl | rfl | rfl <;> rfl
theorem signs_none {k : Int} (h : k < 1 ∨ 5 < k) : signs k = [] := by
  unfold signs
  rw [if_neg (by omega), if_neg (by omega), if_neg (by omega), if_neg (by omega), if_neg (by omega)]
theorem signs_ascii (k : Int) : ∀ c ∈ signs k, c.toNat < 128 := by
  unfold signs
  intro c hc
  repeat' split at hc
  all_goals (simp at hc; try (rcases hc with h | h | h | h | h | h <;> subst h <;> decide))
  all_goals (try (rcases hc with h | h | h | h | h <;> subst h <;> decide))
  all_goals (try (rcases hc with h | h | h | h <;> subst h <;> decide))
  all_goals (try (rcases hc with h | h | h <;> subst h <;> decide))
theorem fit_plus {c : UInt8} (n : Int) (h : (c.toNat : Int) = 43) : fit c n = decide (0 ≤ n) := by unfold fit; rw [if_pos (by omega)]
theorem fit_minus {c : UInt8} (n : Int) (h : (c.toNat : Int) = 45) : fit c n = decide (n ≤ 0) := by unfold fit; rw [if_neg (by omega), if_pos (by omega)]
theorem fit_zero {c : UInt8} (n : Int) (h : (c.toNat : Int) = 48) : fit c n = decide (n = 0) := by unfold fit; rw [if_neg (by omega), if_neg (by omega), if_pos (by omega)]
theorem fit_star {c : UInt8} (n : Int) (h : ¬ (c.toNat : Int) = 43) (h' : ¬ (c.toNat : Int) = 45) (h'' : ¬ (c.toNat : Int) = 48) : fit c n = true := by unfold fit; rw [if_neg (by omega), if_neg (by omega), if_neg (by omega)]

end Go.Proofs.YtellhmbebimenaaDoor.Post
end
