/- Plain facts: which texts are numbers, above a bound or not; no program in sight. -/
import Derived.Test.YtbmphlpmipkpcaaGreatRsm1
import GoSem.Op.String

namespace Go.Proofs.YtbmphlpmipkpcaaGreat.Dec

def mayDec (l : List UInt8) : Bool := l.all isDig && (decide (l = [48]) || (decide (l ≠ []) && decide (l.getD 0 0 ≠ 48)))
/-- an error's number -/
def decE (l : List UInt8) (most : Nat) : Nat := if mayDec l = true then (if most < val l then 5 else 0) else 4
def decN (l : List UInt8) (most : Nat) : Nat := if decE l most = 0 then val l else 0

theorem less_val {a b : List UInt8} (ha : a.all isDig = true) (hb : b.all isDig = true) (h : a.length = b.length) : Op.bytesLess a b = decide (val a < val b) := by
  induction a generalizing b with
  | nil =>
    obtain rfl : b = [] := List.length_eq_zero_iff.1 h.symm
    rfl
  | cons x a ih =>
    cases b with
    | nil => simp at h
    | cons y b =>
      simp only [List.all_cons, Bool.and_eq_true] at ha hb
      have hl : a.length = b.length := by simpa using h
      have h1 := ih ha.2 hb.2 hl
      have e1 : val (x :: a) = dval x * 10 ^ a.length + val a := by
        show valF 0 (x :: a) = _
        rw [valF_cons, valF_lin]; simp
      have e2 : val (y :: b) = dval y * 10 ^ b.length + val b := by
        show valF 0 (y :: b) = _
        rw [valF_cons, valF_lin]; simp
      have v1 := val_lt a ha.2
      have v2 := val_lt b hb.2
      rw [hl] at v1 e1
      have d1 := isDig_iff.1 ha.1
      have d2 := isDig_iff.1 hb.1
      have ex : dval x = x.toNat - 48 := rfl
      have ey : dval y = y.toNat - 48 := rfl
      rw [e1, e2]
      show (decide (x < y) || (x == y && Op.bytesLess a b)) = _
      rw [h1]
      generalize 10 ^ b.length = p at *
      rcases Nat.lt_trichotomy x.toNat y.toNat with hlt | heq | hgt
      · have : x < y := UInt8.lt_iff_toNat_lt.2 hlt
        have hm : (dval x + 1) * p ≤ dval y * p := Nat.mul_le_mul_right p (by omega)
        rw [Nat.add_mul] at hm
        have hv : dval x * p + val a < dval y * p + val b := by omega
        simp [this, hv]
      · have : x = y := UInt8.toNat_inj.1 heq
        subst this
        have hx : ¬ x < x := by rw [UInt8.lt_iff_toNat_lt]; omega
        simp [hx]
      · have : ¬ x < y := by rw [UInt8.lt_iff_toNat_lt]; omega
        have hne : ¬ x = y := fun e => by rw [e] at hgt; omega
        have hm : (dval y + 1) * p ≤ dval x * p := Nat.mul_le_mul_right p (by omega)
        rw [Nat.add_mul] at hm
        have hv : ¬ dval x * p + val a < dval y * p + val b := by omega
        simp [this, hne, hv]
theorem val_inj {a b : List UInt8} (ha : a.all isDig = true) (hb : b.all isDig = true) (h : a.length = b.length) (hv : val a = val b) : a = b := by
  rw [← val_text a ha, ← val_text b hb, h, hv]
theorem mayDec_all {l : List UInt8} (h : mayDec l = true) : l.all isDig = true := by unfold mayDec at h; rw [Bool.and_eq_true] at h; exact h.1
theorem mayDec_lead {l : List UInt8} (h : mayDec l = true) (h1 : 1 < l.length) : 10 ^ (l.length - 1) ≤ val l := by
  have ha := mayDec_all h
  unfold mayDec at h
  simp only [Bool.and_eq_true, Bool.or_eq_true, decide_eq_true_eq] at h
  cases l with
  | nil => simp at h1
  | cons x a =>
    have h2 : x ≠ 48 := by
      rcases h.2 with h | h
      · rw [h] at h1; simp at h1
      · simpa using h.2
    simp only [List.all_cons, Bool.and_eq_true] at ha
    have d := isDig_iff.1 ha.1
    have hx : x.toNat ≠ 48 := fun e => h2 (UInt8.toNat_inj.1 e)
    have e1 : val (x :: a) = dval x * 10 ^ a.length + val a := by
      show valF 0 (x :: a) = _
      rw [valF_cons, valF_lin]; simp
    rw [e1, List.length_cons, Nat.add_sub_cancel]
    have : 1 * 10 ^ a.length ≤ dval x * 10 ^ a.length := Nat.mul_le_mul_right _ (by unfold dval; omega)
    omega
theorem mayDec_ne {l : List UInt8} (h : mayDec l = true) : l ≠ [] := by
  intro e; subst e; simp [mayDec] at h
theorem above_iff {l : List UInt8} (h : mayDec l = true) (most : Nat) :
    (decide ((digits most).length < l.length) || (decide (l.length = (digits most).length) && !(Op.bytesLess l (digits most) || l == digits most))) = decide (most < val l) := by
  have ht := digits_all most
  have hv := digits_val most
  have hl := mayDec_all h
  have hn := mayDec_ne h
  have hpos : 0 < l.length := by rcases l with _ | ⟨x, l⟩; exact absurd rfl hn; simp
  have htp : 0 < (digits most).length := by
    have := digits_ne most
    rcases hd : digits most with _ | ⟨x, r⟩
    · exact absurd hd this
    · simp
  rcases Nat.lt_trichotomy (digits most).length l.length with h1 | h1 | h1
  · have g1 := val_lt _ ht
    rw [hv] at g1
    have g2 := mayDec_lead h (by omega)
    have g3 := Nat.pow_le_pow_right (n := 10) (by decide) (show (digits most).length ≤ l.length - 1 by omega)
    have : most < val l := by omega
    simp [h1, this]
  · have h2 := less_val hl ht h1.symm
    rw [hv] at h2
    rw [h2]
    have h3 : ¬ (digits most).length < l.length := by omega
    by_cases he : l = digits most
    · subst he
      simp [hv]
    · have hne : val l ≠ most := fun e => he (val_inj hl ht h1.symm (by rw [e, hv]))
      have : (l == digits most) = false := by simpa using he
      rw [this, Bool.eq_iff_iff]
      simp [h1]
      omega
  · have g1 := val_lt _ hl
    have g2 : 10 ^ l.length ≤ most := by
      rcases Nat.lt_or_ge most (10 ^ l.length) with h3 | h3
      · have := digits_length_le most (l.length - 1) (by rw [show l.length - 1 + 1 = l.length from by omega]; exact h3)
        omega
      · exact h3
    have h3 : ¬ (digits most).length < l.length := by omega
    have h4 : ¬ l.length = (digits most).length := by omega
    have h5 : ¬ most < val l := by omega
    simp [h3, h4, h5]
theorem digits_lead (n : Nat) (h : 1 ≤ n) : (digits n).getD 0 0 ≠ 48 := by
  induction n using Nat.strongRecOn with
  | _ n ih =>
    by_cases hn : n < 10
    · rw [digits_lt hn]
      intro e
      have : (dig n).toNat = 48 := congrArg UInt8.toNat e
      rw [dig_toNat] at this
      omega
    · rw [digits_ge hn]
      have h1 := ih (n / 10) (by omega) (by omega)
      have h2 := digits_ne (n / 10)
      rcases hd : digits (n / 10) with _ | ⟨x, r⟩
      · exact absurd hd h2
      · rw [hd] at h1; simpa using h1
theorem mayDec_digits (n : Nat) : mayDec (digits n) = true := by
  unfold mayDec
  rw [digits_all]
  rcases Nat.eq_zero_or_pos n with h | h
  · subst h; rw [digits_lt (by decide)]; rfl
  · have h1 := digits_lead n h
    have h2 := digits_ne n
    have h3 : (decide (digits n ≠ []) && decide ((digits n).getD 0 0 ≠ 48)) = true := by
      rw [Bool.and_eq_true, decide_eq_true_eq, decide_eq_true_eq]; exact ⟨h2, h1⟩
    rw [h3]; simp
theorem decE_digits (n most : Nat) : decE (digits n) most = if most < n then 5 else 0 := by unfold decE; rw [if_pos (mayDec_digits n), digits_val]
theorem decN_digits (n most : Nat) : decN (digits n) most = if most < n then 0 else n := by
  unfold decN
  rw [decE_digits, digits_val]
  by_cases h : most < n
  · rw [if_pos h, if_pos h]; rfl
  · rw [if_neg h, if_neg h]; rfl
theorem val_take_le (l : List UInt8) (k : Nat) : val (l.take k) ≤ val l := by
  have h := val_append (l.take k) (l.drop k)
  rw [List.take_append_drop] at h
  have : val (l.take k) * 1 ≤ val (l.take k) * 10 ^ (l.drop k).length := Nat.mul_le_mul_left _ (Nat.pow_pos (by decide))
  omega
end Go.Proofs.YtbmphlpmipkpcaaGreat.Dec
