/- Plain facts on decimal digits as bytes; no program in sight. Plain definitions and facts on ticket numbers; no program in sight. A region that draws its order, whose operations read old memory and whose callees only make memory: one walk of the lexical order serves every order, in the class of worlds that agree with the first one below its size. From a walk that ends 'true' and leaves what was there as it was (Below) to a law's row: the arguments read again as they did. Words for memory: a slice of bytes that reads as a list; append of bytes; what a call that writes only blocks of some types keeps. -/
import GoSem.Core.Value
import Derived.Deep.QuietTactic
import Derived.BigQuiet
import Derived.Below
import Derived.Test.YtbmphlpmipkpcaaGreatRows
import Derived.WalkKit
import Derived.ProofKit
import Derived.OpenShut
import Derived.ShutString
import Derived.ChangeOld
import Derived.WalkSpells
import Derived.WalkLawsBesides
import Derived.Lib.Hide
import Derived.Lib.SliceRun
import Derived.Lib.AppendZeros
import Derived.Laws.BytesArg
import Derived.Laws.IdiomStrings
import Derived.Laws.Rows
import Derived.Maps.AppendAt
import Derived.OwnWalk
import Derived.Deep.Slices

section
namespace Go.Proofs.YtbmphlpmipkpcaaGreat.Dec

def isDig (c : UInt8) : Bool := 48 ≤ c.toNat && c.toNat ≤ 57
def dval (c : UInt8) : Nat := c.toNat - 48
def dig (n : Nat) : UInt8 := UInt8.ofNat (48 + n % 10)
def vstep (a : Nat) (c : UInt8) : Nat := 10 * a + dval c
def valF (a : Nat) (l : List UInt8) : Nat := l.foldl vstep a
def val (l : List UInt8) : Nat := valF 0 l
/-- so many digits of a number, the last ones -/
def text : Nat → Nat → List UInt8
  | _, 0 => []
  | n, k + 1 => text (n / 10) k ++ [dig n]
/-- a number's digits, as few as can be -/
def digits (n : Nat) : List UInt8 :=
  if n < 10 then [dig n] else digits (n / 10) ++ [dig n]
termination_by n
decreasing_by omega

theorem isDig_iff {c : UInt8} : isDig c = true ↔ 48 ≤ c.toNat ∧ c.toNat ≤ 57 := by unfold isDig; simp
theorem dig_toNat (n : Nat) : (dig n).toNat = 48 + n % 10 := by unfold dig; rw [UInt8.toNat_ofNat']; omega
theorem dig_isDig (n : Nat) : isDig (dig n) = true := by rw [isDig_iff, dig_toNat]; omega
theorem dval_dig (n : Nat) : dval (dig n) = n % 10 := by unfold dval; rw [dig_toNat]; omega
theorem dval_le {c : UInt8} (h : isDig c = true) : dval c ≤ 9 := by rw [isDig_iff] at h; unfold dval; omega
theorem dig_dval {c : UInt8} (h : isDig c = true) : dig (dval c) = c := by
  rw [isDig_iff] at h
  apply UInt8.toNat_inj.1
  rw [dig_toNat]; unfold dval; omega

theorem snocRec {α : Type} {M : List α → Prop} (h0 : M []) (h1 : ∀ l c, M l → M (l ++ [c])) (l : List α) : M l := by
  have h : ∀ r : List α, M r.reverse := by
    intro r
    induction r with
    | nil => exact h0
    | cons c r ih => rw [List.reverse_cons]; exact h1 _ _ ih
  have := h l.reverse
  rwa [List.reverse_reverse] at this
theorem valF_cons (a : Nat) (c : UInt8) (l : List UInt8) : valF a (c :: l) = valF (10 * a + dval c) l := by unfold valF; rw [List.foldl_cons]; simp only [vstep]
theorem valF_append (a : Nat) (l r : List UInt8) : valF a (l ++ r) = valF (valF a l) r := by unfold valF; rw [List.foldl_append]
theorem val_snoc (l : List UInt8) (c : UInt8) : val (l ++ [c]) = 10 * val l + dval c := by unfold val; rw [valF_append, valF_cons]; simp only [valF, List.foldl_nil]
theorem valF_lin (a : Nat) (l : List UInt8) : valF a l = a * 10 ^ l.length + val l := by
  induction l generalizing a with
  | nil => simp [valF, val]
  | cons c l ih =>
    have h1 := ih (10 * a + dval c)
    have h2 := ih (10 * 0 + dval c)
    unfold val
    rw [valF_cons, valF_cons, h1, h2, List.length_cons, Nat.pow_succ]
    rw [Nat.add_mul]
    have e1 : 10 * a * 10 ^ l.length = a * (10 ^ l.length * 10) := by rw [Nat.mul_comm 10 a, Nat.mul_assoc, Nat.mul_comm 10]
    have e2 : (10 * 0 + dval c) * 10 ^ l.length = dval c * 10 ^ l.length := by rw [Nat.mul_zero, Nat.zero_add]
    omega
theorem val_append (l r : List UInt8) : val (l ++ r) = val l * 10 ^ r.length + val r := by
  unfold val; rw [valF_append, valF_lin]; rfl
theorem val_lt (l : List UInt8) (h : l.all isDig = true) : val l < 10 ^ l.length := by
  induction l using snocRec with
  | h0 => simp [val, valF]
  | h1 l c ih =>
    rw [List.all_append, Bool.and_eq_true] at h
    have h1 := ih h.1
    have h2 := dval_le (c := c) (by simpa using h.2)
    rw [val_snoc, List.length_append, List.length_singleton, Nat.pow_succ]
    omega

theorem text_length (n k : Nat) : (text n k).length = k := by
  induction k generalizing n with
  | zero => rfl
  | succ k ih => simp [text, ih]
theorem text_all (n k : Nat) : (text n k).all isDig = true := by
  induction k generalizing n with
  | zero => rfl
  | succ k ih => simp only [text, List.all_append, ih, Bool.true_and, List.all_cons, List.all_nil, dig_isDig]
theorem text_val (n k : Nat) : val (text n k) = n % 10 ^ k := by
  induction k generalizing n with
  | zero => simp [text, val, valF, Nat.mod_one]
  | succ k ih =>
    simp only [text]
    rw [val_snoc, ih, dval_dig, Nat.pow_succ, Nat.mul_comm (10 ^ k) 10]
    have := Nat.mod_mul_right_div_self n 10 (10 ^ k)
    have h2 := Nat.div_add_mod (n % (10 * 10 ^ k)) 10
    have h3 : n % (10 * 10 ^ k) % 10 = n % 10 := Nat.mod_mul_right_mod n 10 (10 ^ k)
    omega
theorem val_text (l : List UInt8) (h : l.all isDig = true) : text (val l) l.length = l := by
  induction l using snocRec with
  | h0 => rfl
  | h1 l c ih =>
    rw [List.all_append, Bool.and_eq_true] at h
    have hc : isDig c = true := by simpa using h.2
    have h1 := ih h.1
    have h2 := dval_le hc
    rw [List.length_append, List.length_singleton]
    show text (val (l ++ [c]) / 10) l.length ++ [dig (val (l ++ [c]))] = _
    rw [val_snoc]
    have e1 : (10 * val l + dval c) / 10 = val l := by omega
    have e2 : dig (10 * val l + dval c) = c := by
      have : dig (10 * val l + dval c) = dig (dval c) := by unfold dig; congr 2; omega
      rw [this, dig_dval hc]
    rw [e1, e2, h1]
theorem digits_lt {n : Nat} (h : n < 10) : digits n = [dig n] := by rw [digits, if_pos h]
theorem digits_ge {n : Nat} (h : ¬ n < 10) : digits n = digits (n / 10) ++ [dig n] := by rw [digits, if_neg h]
theorem digits_ne (n : Nat) : digits n ≠ [] := by
  by_cases h : n < 10
  · rw [digits_lt h]; simp
  · rw [digits_ge h]; simp
theorem digits_eq_text (n : Nat) : digits n = text n (digits n).length := by
  induction n using Nat.strongRecOn with
  | _ n ih =>
    by_cases h : n < 10
    · rw [digits_lt h]; simp [text]
    · rw [digits_ge h, List.length_append, List.length_singleton]
      show _ = text (n / 10) _ ++ [dig n]
      rw [← ih (n / 10) (by omega)]
theorem digits_all (n : Nat) : (digits n).all isDig = true := by rw [digits_eq_text]; exact text_all _ _
/-- how many digits: k + 1 just if 10^k ≤ n < 10^(k+1) (k > 0) -/
theorem digits_length_le (n k : Nat) (h : n < 10 ^ (k + 1)) : (digits n).length ≤ k + 1 := by
  induction k generalizing n with
  | zero => rw [digits_lt (by simpa using h)]; simp
  | succ k ih =>
    by_cases hn : n < 10
    · rw [digits_lt hn]; simp
    · rw [digits_ge hn, List.length_append, List.length_singleton]
      have := ih (n / 10) (by rw [Nat.pow_succ] at h; omega)
      omega
theorem digits_length_ge (n k : Nat) (h : 10 ^ k ≤ n) : k + 1 ≤ (digits n).length := by
  induction k generalizing n with
  | zero =>
    have := digits_ne n
    cases hd : digits n with
    | nil => exact absurd hd this
    | cons a l => simp
  | succ k ih =>
    have hp : 1 ≤ 10 ^ k := Nat.one_le_pow _ _ (by decide)
    have hn : ¬ n < 10 := by rw [Nat.pow_succ] at h; omega
    rw [digits_ge hn, List.length_append, List.length_singleton]
    have := ih (n / 10) (by rw [Nat.pow_succ] at h; omega)
    omega
theorem digits_val (n : Nat) : val (digits n) = n := by
  induction n using Nat.strongRecOn with
  | _ n ih =>
    by_cases h : n < 10
    · rw [digits_lt h]; show 10 * 0 + dval (dig n) = n; rw [dval_dig]; omega
    · rw [digits_ge h, val_snoc, ih (n / 10) (by omega), dval_dig]; omega
/-- the loop that writes a number's digits from the last one on: its state behind a round -/
def Dst (N N' : Nat) (acc : List UInt8) : Prop := (acc = [] ∧ N' = N) ∨ (acc.isEmpty = false ∧ 0 < N' ∧ digits N = digits N' ++ acc) ∨ (acc.isEmpty = false ∧ N' = 0 ∧ digits N = acc)
theorem digits_step {N N' : Nat} {acc : List UInt8} (h : digits N = digits N' ++ acc) : Dst N (N' / 10) (dig N' :: acc) := by
  by_cases h10 : N' < 10
  · refine .inr (.inr ⟨rfl, by omega, ?_⟩)
    rw [h, digits_lt h10]; rfl
  · refine .inr (.inl ⟨rfl, by omega, ?_⟩)
    rw [h, digits_ge h10]; simp
theorem text_split (n k j : Nat) : text n (k + j) = text (n / 10 ^ j) k ++ text n j := by
  induction j generalizing n with
  | zero => simp [text]
  | succ j ih =>
    show text (n / 10) (k + j) ++ [dig n] = _ ++ (text (n / 10) j ++ [dig n])
    rw [ih (n / 10), Nat.div_div_eq_div_mul, Nat.pow_succ, Nat.mul_comm (10 ^ j) 10, List.append_assoc]
theorem text_take (n k j : Nat) : (text n (k + j)).take k = text (n / 10 ^ j) k := by
  rw [text_split, List.take_append_of_le_length (by rw [text_length]; exact Nat.le_refl _), List.take_of_length_le (by rw [text_length]; exact Nat.le_refl _)]
theorem text_drop (n k j : Nat) : (text n (k + j)).drop k = text n j := by
  rw [text_split, List.drop_append_of_le_length (by rw [text_length]; exact Nat.le_refl _), List.drop_of_length_le (by rw [text_length]; exact Nat.le_refl _)]; rfl
end Go.Proofs.YtbmphlpmipkpcaaGreat.Dec
end

section
namespace Go.Proofs.YtbmphlpmipkpcaaGreat.Num

def check (n : Int) : Int := if n < 1000000000000 ∨ 9999999999999 < n then 2 else if n / 10 % 7 = n % 10 then 0 else 11
def mayC (c : Int) : Bool := decide (100 ≤ c) && decide (c ≤ 999)
def mayS (s : Int) : Bool := decide (0 ≤ s) && decide (s ≤ 999999999)
def body (c s : Int) : Int := c * 1000000000 + s
def make (c s : Int) : Int := 10 * body c s + body c s % 7

def mkN (c s : Int) : Int := if (mayC c && mayS s) = true then make c s else 0
def mkE (c s : Int) : Int := if (mayC c && mayS s) = true then 0 else 2
def carr (n : Int) : Int := if check n = 0 then n / 10 / 1000000000 else 0
def seri (n : Int) : Int := if check n = 0 then n / 10 % 1000000000 else 0

theorem mayC_iff {c : Int} : mayC c = true ↔ 100 ≤ c ∧ c ≤ 999 := by unfold mayC; simp
theorem mayS_iff {c : Int} : mayS c = true ↔ 0 ≤ c ∧ c ≤ 999999999 := by unfold mayS; simp

def locByte (c : UInt8) : Bool := (65 ≤ c.toNat && c.toNat ≤ 90) || (50 ≤ c.toNat && c.toNat ≤ 57)
def loc (l : List UInt8) : Bool := l.all locByte && decide (l.length = 6)

theorem locByte_yes {c : UInt8} (h : (65 ≤ (c.toNat : Int) ∧ (c.toNat : Int) ≤ 90) ∨ (50 ≤ (c.toNat : Int) ∧ (c.toNat : Int) ≤ 57)) : locByte c = true := by
  unfold locByte; simp; omega
theorem locByte_no {c : UInt8} (h : ¬ ((65 ≤ (c.toNat : Int) ∧ (c.toNat : Int) ≤ 90) ∨ (50 ≤ (c.toNat : Int) ∧ (c.toNat : Int) ≤ 57))) : locByte c = false := by
  unfold locByte; rw [Bool.eq_false_iff]; simp; omega

/-- the text of a carrier and a serial that may be -/
def textOf (c s : Nat) : List UInt8 := (Dec.text c 3 ++ Dec.text s 9) ++ [Dec.dig ((c * 1000000000 + s) % 7)]
/-- what a text's digits are: an error's number -/
def ofE (l : List UInt8) : Int := if l.length = 13 ∧ l.all Dec.isDig = true then check (Dec.val l) else 4
def ofN (l : List UInt8) : Int := if ofE l = 0 then (Dec.val l : Int) else 0

theorem check_zero {n : Int} (h : check n = 0) : 1000000000000 ≤ n ∧ n ≤ 9999999999999 ∧ n / 10 % 7 = n % 10 := by
  unfold check at h
  split at h
  · omega
  · split at h
    · omega
    · omega
def mayStock (c f n : Int) : Bool := mayC c && mayS f && decide (1 ≤ n) && decide (n ≤ 1000000000 - f)
def inStock (c f n m : Int) : Bool := mayStock c f n && decide (carr m = c) && decide (f ≤ seri m) && decide (seri m < f + n)
theorem mayStock_iff {c f n : Int} : mayStock c f n = true ↔ (100 ≤ c ∧ c ≤ 999) ∧ (0 ≤ f ∧ f ≤ 999999999) ∧ 1 ≤ n ∧ n ≤ 1000000000 - f := by
  unfold mayStock; simp [mayC_iff, mayS_iff]; omega
theorem seri_bound (n : Int) : 0 ≤ seri n ∧ seri n ≤ 999999999 := by
  unfold seri; split <;> omega
theorem carr_bound (n : Int) : 0 ≤ carr n ∧ carr n ≤ 999 := by
  unfold carr; split
  · rename_i h; have := check_zero h; omega
  · omega
theorem textOf_length (c s : Nat) : (textOf c s).length = 13 := by simp [textOf, Dec.text_length]
theorem textOf_all (c s : Nat) : (textOf c s).all Dec.isDig = true := by simp [textOf, Dec.text_all, Dec.dig_isDig]
theorem half_val (c s : Nat) (hc : c ≤ 999) (hs : s ≤ 999999999) : Dec.val (Dec.text c 3 ++ Dec.text s 9) = c * 1000000000 + s := by
  rw [Dec.val_append, Dec.text_val, Dec.text_val, Dec.text_length]
  have e1 : c % 10 ^ 3 = c := Nat.mod_eq_of_lt (by omega)
  have e2 : s % 10 ^ 9 = s := Nat.mod_eq_of_lt (by omega)
  rw [e1, e2]
theorem textOf_val (c s : Nat) (hc : c ≤ 999) (hs : s ≤ 999999999) : Dec.val (textOf c s) = 10 * (c * 1000000000 + s) + (c * 1000000000 + s) % 7 := by
  unfold textOf
  rw [Dec.val_snoc, half_val c s hc hs, Dec.dval_dig]
  omega
theorem make_val (c s : Nat) (hc : c ≤ 999) (hs : s ≤ 999999999) : (Dec.val (textOf c s) : Int) = make c s := by
  rw [textOf_val c s hc hs]; unfold make body; omega
theorem make_parts (B : Int) (_h : 0 ≤ B) : (10 * B + B % 7) / 10 = B ∧ (10 * B + B % 7) % 10 = B % 7 := by omega
theorem make_check (c s : Int) (hc : mayC c = true) (hs : mayS s = true) : check (make c s) = 0 ∧ carr (make c s) = c ∧ seri (make c s) = s := by
  have bc := mayC_iff.1 hc
  have bs := mayS_iff.1 hs
  obtain ⟨e1, e2⟩ := make_parts (c * 1000000000 + s) (by omega)
  have h0 : check (make c s) = 0 := by unfold check make body; rw [if_neg (by omega), e1, e2, if_pos rfl]
  refine ⟨h0, ?_, ?_⟩
  · unfold carr; rw [if_pos h0]; unfold make body; rw [e1]; omega
  · unfold seri; rw [if_pos h0]; unfold make body; rw [e1]; omega
theorem make_bound (c s : Int) (hc : mayC c = true) (hs : mayS s = true) : 0 ≤ make c s ∧ make c s ≤ 9999999999999 := by
  have bc := mayC_iff.1 hc
  have bs := mayS_iff.1 hs
  unfold make body; omega
theorem digits13 {n : Nat} (h0 : 1000000000000 ≤ n) (h1 : n ≤ 9999999999999) : (Dec.digits n).length = 13 := by
  have a := Dec.digits_length_le n 12 (by omega)
  have b := Dec.digits_length_ge n 12 (by omega)
  omega
theorem digits_text {n : Nat} (h0 : 1000000000000 ≤ n) (h1 : n ≤ 9999999999999) : Dec.digits n = Dec.text n 13 := by
  rw [Dec.digits_eq_text, digits13 h0 h1]
/-- the reference's check by a number's digits is the program's by its bounds -/
theorem ofE_digits (n : Nat) : ofE (Dec.digits n) = if (Dec.digits n).length = 13 then check n else 4 := by
  unfold ofE
  rw [Dec.digits_val]
  simp [Dec.digits_all]
theorem check_far (n : Nat) (h : (Dec.digits n).length ≠ 13) : check n = 2 := by
  unfold check
  rw [if_pos]
  by_cases a : n < 1000000000000
  · omega
  · by_cases b : 9999999999999 < n
    · omega
    · exact absurd (digits13 (by omega) (by omega)) h
theorem check_ne4 (n : Int) : check n ≠ 4 := by unfold check; split <;> (try split) <;> omega

end Go.Proofs.YtbmphlpmipkpcaaGreat.Num
end

section
namespace Go.Proofs.YtbmphlpmipkpcaaGreat
open Go.RowKit

structure Later (W : World) where
  val : World
  prop : Below W.heap.size W val

instance Later.nonempty (W : World) : Nonempty (Later W) := ⟨⟨W, Below.refl _ _⟩⟩

theorem Later.of {W w : World} (h : Below W.heap.size W w) : ∃ u : Later W, w = u.val := ⟨⟨w, h⟩, rfl⟩
theorem Later.cell {W : World} (u : Later W) (b o : Nat) (h : b < W.heap.size) : u.val.cell? ⟨b, o, none⟩ = W.cell? ⟨b, o, none⟩ := u.prop.cell (p := ⟨b, o, none⟩) h
theorem Later.frozen {W : World} (u : Later W) (b o : Nat) (h : b < W.heap.size) : u.val.frozen? ⟨b, o, none⟩ = W.frozen? ⟨b, o, none⟩ := u.prop.frozen (p := ⟨b, o, none⟩) h

theorem wp_region_later {P : Program} {id : Nat} {Q : Exit → Act → World → Prop} {a : Act} {W : World} {l : List Oper} (hm : P.follows .mixedOrders = true) (hB : Region.lexB .any l.toArray = true)
    (h : wpQuiet P l.toArray (fun w' => ∃ u : Later W, w' = u.val) (fun a' => ∀ w', (∃ u : Later W, w' = u.val) → Q .normal a' w') l a) : (Code.region id l.toArray true).wp P Q a W :=
  wp_region_quiet (C := fun w' => ∃ u : Later W, w' = u.val) hm hB (Later.of (Below.refl W.heap.size W).drew) (by simpa using h)

/-- a contract that only makes memory, met in such a region -/
theorem later_call {P : Program} {f : FuncId} {args : Array Value} {W : World} {u : Later W} {v : Value}
    (h : Calls P f args u.val fun e w' => e = .returned v ∧ Below u.val.heap.size u.val w') : Calls P f args u.val fun e w'' => e = .returned v ∧ ∃ m : Later W, w'' = m.val :=
  h.mono fun _ _ ⟨he, hb⟩ => ⟨he, Later.of (u.prop.trans (hb.mono u.prop.size))⟩
theorem later_same {P : Program} {f : FuncId} {args : Array Value} {W : World} {u : Later W} {v : Value}
    (h : Calls P f args u.val fun e w' => e = .returned v ∧ u.val = w') : Calls P f args u.val fun e w'' => e = .returned v ∧ ∃ m : Later W, w'' = m.val :=
  h.mono fun _ _ ⟨he, hb⟩ => ⟨he, u, hb.symm⟩
theorem later_drew {P : Program} {f : FuncId} {args : Array Value} {W : World} {u : Later W} {v : Value}
    (h : Calls P f args u.val fun e w' => e = .returned v ∧ ∃ n, w' = u.val.drewN n) : Calls P f args u.val fun e w'' => e = .returned v ∧ ∃ m : Later W, w'' = m.val :=
  h.mono fun _ _ ⟨he, n, hb⟩ => ⟨he, Later.of (by rw [hb]; exact u.prop.trans ⟨rfl, rfl, rfl, Nat.le_refl _, fun _ _ => rfl⟩)⟩
end Go.Proofs.YtbmphlpmipkpcaaGreat
end

section
namespace Go.Proofs.YtbmphlpmipkpcaaGreat
open Go.ChangeShapes Go.WideShapes Go.ChangeAt Go.RowKit

theorem own : ownKnob Tryz.prog.godebug = none := by kernel_rfl
theorem laidOut : laidOutB Tryz.prog = true := by kernel_rfl

theorem trodAll_below {H : Type} {enc : TypeId × Value → H} {P : Program} (hl : laidOutB P = true) {W W' : World} (hb : Below W.heap.size W W') :
    ∀ (ts : List TypeId) (vs : List Value) (ds : List (DataW H)) (ps : List MemPlace), (∀ t ∈ ts, P.readableRec t = true ∧ t < P.types.size) →
      DataW.TrodAll enc P W 0 (fun _ => true) true ts vs ds ps → DataW.TrodAll enc P W' 0 (fun b => decide (b < W.heap.size)) true ts vs ds ps := by
  intro ts
  induction ts with
  | nil =>
    intro vs ds ps _ h
    obtain ⟨rfl, rfl, rfl⟩ := trodAll_nil h
    exact rfl
  | cons t ts ih =>
    intro vs ds ps hr h
    obtain ⟨v, vs', d, ds', p, q, rfl, rfl, rfl, h0, h1⟩ := trodAll_cons h
    have lt0 : ∀ x ∈ p, x.block < W.heap.size := by obtain ⟨m, hm⟩ := h0; exact DataW.trod_lt m _ _ _ hm
    exact ⟨p, q, Below.trod hl (hr t (by simp)).1 (hr t (by simp)).2 h0 hb lt0, ih vs' ds' q (fun t' ht' => hr t' (by simp [ht'])) h1, rfl⟩

/-- All a law's row asks behind the call, out of 'Below' alone. -/
theorem post_law {H : Type} {enc : TypeId × Value → H} {P : Program} {f : Func} {s : ChangeSpec} {W W' : World} {args : Array Value} {ds gs : List (DataW H)} {before : List MemPlace} {tb : TypeId}
    (hl : laidOutB P = true) (hv : s.vars = []) (hW : DataW.Whole enc P f.params.toList s.vars false W args.toList ds gs before)
    (hfn : (s.fn H (ds ++ [])).results = [.lit (.bool true)] ∧ (s.fn H (ds ++ [])).args = ds ∧ (s.fn H (ds ++ [])).vars = [])
    (hr : f.params.toList.all (fun t => P.readableRec t && decide (t < P.types.size)) = true) (hb : Below W.heap.size W W')
    (htb : P.underlying tb = some .bool) (hres : f.resultTypes = #[tb]) :
    s.post enc P f false true false false W args (.bool true) W' := by
  have hW' := hW
  obtain ⟨p, q, hA, hV, rfl, hfz, hnd⟩ := hW
  rw [hv] at hV
  obtain ⟨rfl, rfl⟩ := trodVars_none hV
  refine ⟨ds, [], _, [], p, [], hW', ?_, ?_, ?_, hb.frame _, fun h => by cases h⟩
  · rw [hfn.1, hres]
    exact trodAll_mk1 (shut_bool htb _)
  · rw [hfn.2.1]
    refine trodAll_below hl hb _ _ _ _ ?_ hA
    intro t ht
    have := List.all_eq_true.1 hr t ht
    simpa using this
  · rw [hv, hfn.2.2]
    exact rfl
end Go.Proofs.YtbmphlpmipkpcaaGreat
end

section
set_option linter.unusedVariables false
set_option linter.unusedSimpArgs false
namespace Go.Proofs.YtbmphlpmipkpcaaGreat
open Go.RowKit

theorem new_rowW (w : World) (o : Obj) (n : Nat) (hn : n = w.heap.size) : (w.alloc o).heap[n]? = some o := by
  subst hn
  show (w.heap.push o)[w.heap.size]? = _
  simp
theorem cell_blockW {w : World} {a : Addr} {v : Value} (h : w.cell? a = some v) : a.block < w.heap.size := by
  unfold World.cell? at h
  split at h
  · rename_i c e f hh
    rcases Nat.lt_or_ge a.block w.heap.size with h1 | h1
    · exact h1
    · rw [Array.getElem?_eq_none h1] at hh; cases hh
  · cases h
theorem ret_boolW {a b : Bool} (h : a = b) : Ending.returned (.bool a) = .returned (.bool b) := by rw [h]
def bytesV (l : List UInt8) : List Value := l.map fun x => .int .u8 (x.toNat : Int)
theorem bytesV_length (l : List UInt8) : (bytesV l).length = l.length := by simp [bytesV]
theorem bytesV_append (l m : List UInt8) : bytesV (l ++ m) = bytesV l ++ bytesV m := by simp [bytesV]
theorem bytesV_at (l : List UInt8) (i : Nat) : (bytesV l)[i]? = l[i]?.map fun x => .int .u8 (x.toNat : Int) := by simp [bytesV]
theorem bytesV_one (l : List UInt8) : ∀ u ∈ bytesV l, u.oneCell' = true := by
  intro u hu
  obtain ⟨x, _, rfl⟩ := List.mem_map.1 hu
  rfl

/-- the value is a slice of the bytes l -/
def BS (w : World) (v : Value) (l : List UInt8) : Prop :=
  ∃ (p : Option Addr) (cap : Nat), v = .slice p l.length cap ∧ l.length ≤ cap ∧ cap ≤ maxLen ∧
    (l ≠ [] → ∃ b o, p = some ⟨b, o, none⟩ ∧ b < w.heap.size ∧ ∀ i x, l[i]? = some x → w.cell? ⟨b, o + i, none⟩ = some (.int .u8 (x.toNat : Int)))

theorem BS.nil (w : World) : BS w (.slice none 0 0) [] := ⟨none, 0, rfl, Nat.le_refl _, Nat.zero_le _, fun h => absurd rfl h⟩
theorem BS.keep {w w' : World} {v : Value} {l : List UInt8} (h : BS w v l) (hs : w.heap.size ≤ w'.heap.size)
    (hk : ∀ b o, v.ownBlock = some b → b < w.heap.size → w'.cell? ⟨b, o, none⟩ = w.cell? ⟨b, o, none⟩) : BS w' v l := by
  obtain ⟨p, cap, rfl, h1, h2, h3⟩ := h
  refine ⟨p, cap, rfl, h1, h2, fun hl => ?_⟩
  obtain ⟨b, o, rfl, hb, hc⟩ := h3 hl
  exact ⟨b, o, rfl, by omega, fun i x hx => (hk b _ rfl hb).trans (hc i x hx)⟩
theorem BS.below {w w' : World} {v : Value} {l : List UInt8} (h : BS w v l) (hb : Below w.heap.size w w') : BS w' v l :=
  h.keep hb.size fun b o _ hlt => hb.cell (p := ⟨b, o, none⟩) hlt
theorem BS.alloc {w : World} {v : Value} {l : List UInt8} (h : BS w v l) (o : Obj) : BS (w.alloc o) v l := h.below ((Below.refl _ _).alloc (Nat.le_refl _) _)
theorem BS.drew {w : World} {v : Value} {l : List UInt8} (h : BS w v l) : BS w.drew v l := h.below (Below.refl _ _).drew

/-- 'string(b)' -/
theorem BS.string {P : Program} {w : World} {v : Value} {l : List UInt8} (h : BS w v l) {src dst e : TypeId} (hs : P.underlying src = some (.slice e)) (he : P.underlying e = some (.int .u8)) (hd : P.underlying dst = some .string) :
    (convert src dst v).run P w = .ok (.string ⟨l.toArray⟩) w := by
  obtain ⟨p, cap, rfl, h1, h2, h3⟩ := h
  by_cases hl : l = []
  · subst hl
    cases p with
    | none => exact run_convert_bytes_nil w src e hs he 0 cap dst hd
    | some a => exact run_convert_bytes_back w src dst e a cap [] hs he hd (fun j hj => absurd hj (by simp))
  · obtain ⟨b, o, rfl, hb, hc⟩ := h3 hl
    refine run_convert_bytes_back w src dst e ⟨b, o, none⟩ cap l hs he hd fun j hj => ?_
    rw [Go.WideShapes.add_plain]
    exact hc j _ (List.getElem?_eq_getElem hj)
theorem BS.to_string {w : World} {v : Value} {l : List UInt8} (h : BS w v l) : (convert 47 9 v).run Tryz.prog w = .ok (.string ⟨l.toArray⟩) w :=
  h.string Tryz.underlying47 Tryz.underlying5 Tryz.underlying9

/-- a row of the call's own is a slice of bytes -/
theorem BS.of_own {w : World} {base e : Nat} {v : Value} {n : Nat} {l : List UInt8} (h : w.ownsRow base e 1 v n (bytesV l)) : BS w v l := by
  obtain ⟨hlen, hor⟩ := h
  have hn : n = l.length := by simpa [bytesV] using hlen.symm
  subst hn
  rcases hor with ⟨rfl, h0⟩ | ⟨g, cap, cur, rfl, hg, hh, hnc, hcm, hcs, htk⟩
  · have : l = [] := List.length_eq_zero_iff.1 h0
    subst this
    exact BS.nil w
  · refine ⟨_, cap, rfl, hnc, hcm, fun hl => ⟨g, 0, rfl, ?_, fun i x hx => ?_⟩⟩
    · rcases Nat.lt_or_ge g w.heap.size with hlt | hge
      · exact hlt
      · rw [Array.getElem?_eq_none hge] at hh; cases hh
    · have hi : i < l.length := (List.getElem?_eq_some_iff.1 hx).1
      rw [cell_of_row w g _ cur _ _ hh, Nat.zero_add]
      have h1 : (cur.toList.take (l.length * 1))[i]? = some (.int .u8 (x.toNat : Int)) := by rw [htk, bytesV_at, hx]; rfl
      rw [List.getElem?_take_of_lt (by omega)] at h1
      simpa using h1

theorem byte_info : ∃ i, Tryz.prog.info? 5 = some i ∧ i.zero = some (.int .u8 0) ∧ i.size = 1 ∧ i.bytes = 1 := by
  have h : (Tryz.prog.info? 5).map (fun i => (i.zero, i.size, i.bytes)) = some (some (.int .u8 0), 1, 1) := by kernel_rfl
  cases hi : Tryz.prog.info? 5 with
  | none => rw [hi] at h; cases h
  | some i =>
    rw [hi] at h
    injection h with h
    injection h with h1 h2
    injection h2 with h2 h3
    exact ⟨i, rfl, h1, h2, h3⟩
theorem run_append_none {P : Program} (w : World) (base : Nat) (t ty e : TypeId) (i : TypeInfo) (size : Nat) (ht : P.underlying t = some (.slice e)) (hi : P.info? e = some i)
    (v : Value) (n : Nat) (xs : List Value) (hown : w.ownsRow base e size v n xs) (c : Nat) : (Builtin.append_ #[t, t] ty #[v, .slice none 0 c]).run P w = .ok v w := by
  rcases hown.2 with ⟨rfl, rfl⟩ | ⟨g, cap, cur, rfl, _, _, hnc, _⟩
  · simp [Builtin.append_, run_underlying ht, sizeOf, typeInfo, hi, Builtin.lenOf, Builtin.firstCells]
  · simp [Builtin.append_, run_underlying ht, sizeOf, typeInfo, hi, Builtin.lenOf, Builtin.firstCells, hnc, storeCells]
set_option maxRecDepth 4000 in
/-- 'append(v, x...)' of bytes -/
theorem run_append_bytes (w : World) (base : Nat) (ty : TypeId) (v : Value) (n : Nat) (xs : List Value) (hown : w.ownsRow base 5 1 v n xs) (x : Value) (l : List UInt8) (hx : BS w x l) (hn : n + l.length ≤ 1099511627776) (hbase : base ≤ w.heap.size) :
    ∃ v' w', (Builtin.append_ #[47, 47] ty #[v, x]).run Tryz.prog w = .ok v' w' ∧ w'.ownsRow base 5 1 v' (n + l.length) (xs ++ bytesV l) ∧ w.grownBy w' v.ownBlock ∧
      (v' = .slice none 0 0 ↔ v = .slice none 0 0 ∧ l = []) ∧ (v'.ownBlock = v.ownBlock ∨ v'.ownBlock = some w.heap.size) := by
  obtain ⟨i0, hi0, hi1, hi2, hi3⟩ := byte_info
  obtain ⟨p, cap, rfl, h1, h2, h3⟩ := hx
  cases p with
  | none =>
    have hl : l = [] := by
      by_cases hl : l = []
      · exact hl
      · obtain ⟨b, o, h, _⟩ := h3 hl; cases h
    subst hl
    exact ⟨v, w, run_append_none w base _ ty _ i0 1 Tryz.underlying47 hi0 v n xs hown cap, by simpa [bytesV] using hown, World.grownBy.refl w _, by simp, .inl rfl⟩
  | some ad =>
    obtain ⟨v', w', hr, g1, g2, g3, g4⟩ := run_append_own_at (P := Tryz.prog) w base 47 ty _ i0 _ 1 1 Tryz.underlying47 hi0 hi1 hi2 hi3 rfl (by decide) v n xs hown ad l.length cap (bytesV l) (by simp [bytesV]) (fun j u hu => by
        rw [bytesV_at] at hu
        cases hx : l[j]? with
        | none => rw [hx] at hu; cases hu
        | some y =>
          rw [hx] at hu
          injection hu with hu
          obtain ⟨b, o, e, hb, hc⟩ := h3 (by intro h; subst h; simp at hx)
          injection e with e
          subst e
          rw [Go.WideShapes.add_plain, hc j y hx, ← hu]) (bytesV_one l) (by simp only [maxLen]; omega) (by omega) hbase
    exact ⟨v', w', hr, g1, g2, by rw [g3]; simp [List.length_eq_zero_iff], g4⟩
theorem wpList_append_bytes {ops : Array Oper} {rest : List Oper} {o : Oper} {a : Act} {Q : Exit → Act → World → Prop} {w : World} (hgd : o.guard = none) (s x : Operand)
    (ho : o.op = .call { callee := .builtin .append, args := #[s, x], argTypes := #[47, 47] }) (base : Nat) (v : Value) (n : Nat) (xs : List Value) (hs : a.eval s = v) (hown : w.ownsRow base 5 1 v n xs)
    (y : Value) (l : List UInt8) (hx : a.eval x = y) (hb : BS w y l) (hn : n + l.length ≤ 1099511627776) (hbase : base ≤ w.heap.size)
    (h : ∀ v' w', w'.ownsRow base 5 1 v' (n + l.length) (xs ++ bytesV l) → w.grownBy w' v.ownBlock → (v' = .slice none 0 0 ↔ v = .slice none 0 0 ∧ l = []) → (v'.ownBlock = v.ownBlock ∨ v'.ownBlock = some w.heap.size) → wpList Tryz.prog ops Q rest (a.put o.dst v') w') :
    wpList Tryz.prog ops Q (o :: rest) a w := by
  obtain ⟨v', w', hr, g1, g2, g3, g4⟩ := run_append_bytes w base o.type v n xs hown y l hb hn hbase
  exact Lib.wpList_append_run w hgd s x _ _ ho v y hs hx v' w' hr (h v' w' g1 g2 g3 g4)

/-- WHAT A CALL KEEPS that writes only blocks whose elements are of the types T: every other old block is as it was. -/
structure Kept (T : List TypeId) (w w' : World) : Prop where
  size : w.heap.size ≤ w'.heap.size
  block : ∀ (i : Nat) (cs : Array Value) (t : TypeId) (fr : Nat × Nat), w.heap[i]? = some (Obj.cells cs t fr) → t ∉ T → w'.heap[i]? = some (Obj.cells cs t fr)
theorem Kept.refl (T : List TypeId) (w : World) : Kept T w w := ⟨Nat.le_refl _, fun _ _ _ _ h _ => h⟩
theorem Kept.trans {T : List TypeId} {a b c : World} (h : Kept T a b) (k : Kept T b c) : Kept T a c := ⟨Nat.le_trans h.size k.size, fun i cs t fr hi ht => k.block i cs t fr (h.block i cs t fr hi ht) ht⟩
theorem block_lt {w : World} {i : Nat} {o : Obj} (h : w.heap[i]? = some o) : i < w.heap.size := by
  rcases Nat.lt_or_ge i w.heap.size with h1 | h1
  · exact h1
  · rw [Array.getElem?_eq_none h1] at h; cases h
theorem Kept.of_below {T : List TypeId} {w w' : World} (h : Below w.heap.size w w') : Kept T w w' := ⟨h.size, fun i cs t fr hi _ => (h.block i (block_lt hi)).trans hi⟩
theorem Kept.alloc {T : List TypeId} {a w : World} (h : Kept T a w) (o : Obj) : Kept T a (w.alloc o) := h.trans (.of_below ((Below.refl _ _).alloc (Nat.le_refl _) _))
theorem Kept.setCell {T : List TypeId} {a w : World} (h : Kept T a w) {g i : Nat} {cs : Array Value} {t : TypeId} {fr : Nat × Nat} (hg : w.heap[g]? = some (.cells cs t fr)) (ht : t ∈ T) (v : Value) : Kept T a (w.setCell ⟨g, i, none⟩ v) :=
  h.trans ⟨by simp, fun i cs' t' fr' hi ht' => by
    rw [heap_setCell_other w _ i v (fun e => by subst e; rw [hg] at hi; injection hi with hi; injection hi with h1 h2 h3; subst h2; exact ht' ht)]
    exact hi⟩
end Go.Proofs.YtbmphlpmipkpcaaGreat
end
