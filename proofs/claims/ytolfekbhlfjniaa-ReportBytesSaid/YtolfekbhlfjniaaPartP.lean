/- Plain law: totals of few postings that may be are the sums of their columns; these do not hang on the order, and those of two parts add up. -/
import Derived.Test.YtolfekbhlfjniaaSumP
import Derived.Test.YtolfekbhlfjniaaSrtP
set_option linter.unusedVariables false
namespace Go.Proofs.Ytolfekbhlfjniaa
theorem Srt.Mix.perm {α : Type} {key : α → Int} {x y : List α} (h : Srt.Mix key x y) : x.Perm y := by
  classical
  refine List.perm_iff_count.2 fun a => ?_
  have h1 := h.2 (key a)
  rw [← List.count_filter (p := fun e => key e == key a) (l := x) (by simp), h1, List.count_filter (by simp)]
namespace Post
/-- a column's sum -/
def colS (f : Pst → Int) : List Pst → Int
  | [] => 0
  | p :: l => f p + colS f l
theorem colS_append (f : Pst → Int) (x y : List Pst) : colS f (x ++ y) = colS f x + colS f y := by
  induction x with
  | nil => simp [colS]
  | cons p x ih => rw [List.cons_append, colS, colS, ih]; omega
theorem colS_perm (f : Pst → Int) {x y : List Pst} (h : x.Perm y) : colS f x = colS f y := by
  induction h with
  | nil => rfl
  | cons p _ ih => rw [colS, colS, ih]
  | swap p q l => rw [colS, colS, colS, colS]; omega
  | trans _ _ h1 h2 => rw [h1, h2]
theorem may_each {p : Pst} (h : p.may = true) : (-1125899906842624 ≤ p.a0 ∧ p.a0 ≤ 1125899906842624) ∧ (-1125899906842624 ≤ p.a1 ∧ p.a1 ≤ 1125899906842624) ∧ (-1125899906842624 ≤ p.a2 ∧ p.a2 ≤ 1125899906842624) ∧
    (-1125899906842624 ≤ p.a3 ∧ p.a3 ≤ 1125899906842624) ∧ (-1125899906842624 ≤ p.a4 ∧ p.a4 ≤ 1125899906842624) ∧ (-1125899906842624 ≤ p.a5 ∧ p.a5 ≤ 1125899906842624) := by
  have hb := may_bound h
  exact ⟨any_in hb (by simp [Pst.am]), any_in hb (by simp [Pst.am]), any_in hb (by simp [Pst.am]), any_in hb (by simp [Pst.am]), any_in hb (by simp [Pst.am]), any_in hb (by simp [Pst.am])⟩
theorem colS_bound (f : Pst → Int) {l : List Pst} (h : ∀ p ∈ l, -1125899906842624 ≤ f p ∧ f p ≤ 1125899906842624) : -(l.length * 1125899906842624 : Int) ≤ colS f l ∧ colS f l ≤ (l.length * 1125899906842624 : Int) := by
  induction l with
  | nil => simp [colS]
  | cons p l ih =>
    have h1 := h p (by simp)
    have h2 := ih fun q hq => h q (by simp [hq])
    rw [colS, List.length_cons]
    omega
theorem run_cols : ∀ (l : List Pst) (x0 x1 x2 x3 x4 x5 : Int), (∀ p ∈ l, p.may = true) →
    (∀ z, z = x0 ∨ z = x1 ∨ z = x2 ∨ z = x3 ∨ z = x4 ∨ z = x5 → -(1152921504606846976 - l.length * 1125899906842624 : Int) ≤ z ∧ z ≤ (1152921504606846976 - l.length * 1125899906842624 : Int)) →
    run [x0, x1, x2, x3, x4, x5] (l.map Pst.am) = some [x0 + colS (·.a0) l, x1 + colS (·.a1) l, x2 + colS (·.a2) l, x3 + colS (·.a3) l, x4 + colS (·.a4) l, x5 + colS (·.a5) l] := by
  intro l
  induction l with
  | nil => intro x0 x1 x2 x3 x4 x5 _ _; simp [run, colS]
  | cons p l ih =>
    intro x0 x1 x2 x3 x4 x5 hm hb
    obtain ⟨m0, m1, m2, m3, m4, m5⟩ := may_each (hm p (by simp))
    have b0 := hb x0 (by simp); have b1 := hb x1 (by simp); have b2 := hb x2 (by simp); have b3 := hb x3 (by simp); have b4 := hb x4 (by simp); have b5 := hb x5 (by simp)
    simp only [List.length_cons] at b0 b1 b2 b3 b4 b5
    rw [List.map_cons, run]
    have hadd : addAm [x0, x1, x2, x3, x4, x5] p.am = [x0 + p.a0, x1 + p.a1, x2 + p.a2, x3 + p.a3, x4 + p.a4, x5 + p.a5] := rfl
    rw [hadd, if_neg]
    · rw [ih _ _ _ _ _ _ (fun q hq => hm q (by simp [hq])) (by
        intro z hz
        rcases hz with rfl | rfl | rfl | rfl | rfl | rfl <;> omega)]
      simp only [colS, Int.add_assoc]
    · simp only [List.any_cons, List.any_nil, outB, Bool.or_eq_true, decide_eq_true_eq, Bool.false_eq_true, or_false]
      omega
theorem sums_cols {l : List Pst} (hm : ∀ p ∈ l, p.may = true) (hl : l.length ≤ 60) :
    sums l = ⟨0, l.length, [colS (·.a0) l, colS (·.a1) l, colS (·.a2) l, colS (·.a3) l, colS (·.a4) l, colS (·.a5) l]⟩ := by
  have h := run_cols l 0 0 0 0 0 0 hm (by intro z hz; have : z = 0 := by simpa using hz
                                          subst this; omega)
  simp only [Int.zero_add] at h
  refine sums_are ?_ h
  rw [List.any_eq_false]
  intro p hp
  simp [hm p hp]
end Post
end Go.Proofs.Ytolfekbhlfjniaa
