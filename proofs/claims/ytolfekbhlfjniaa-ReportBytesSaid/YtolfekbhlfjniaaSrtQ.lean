/- Plain law: a list of sorted runs of one length, the last one shorter: what a merge sort has at each stage. -/
import Derived.Test.YtolfekbhlfjniaaSrtP
namespace Go.Proofs.Ytolfekbhlfjniaa
namespace Srt
variable {α : Type} {key : α → Int}

/-- runs of k sorted elements each, behind them a sorted one of fewer -/
inductive Runs (key : α → Int) (k : Nat) : List α → Prop
  | last (x : List α) : Up key x → x.length < k → Runs key k x
  | cons (x l : List α) : Up key x → x.length = k → Runs key k l → Runs key k (x ++ l)
/-- runs of k each, all of them full -/
inductive Full (key : α → Int) (k : Nat) : List α → Prop
  | nil : Full key k []
  | cons (x l : List α) : Up key x → x.length = k → Full key k l → Full key k (x ++ l)
theorem Full.snoc {k : Nat} {l x : List α} (h : Full key k l) (hx : Up key x) (hk : x.length = k) : Full key k (l ++ x) := by
  induction h with
  | nil => have := Full.cons x [] hx hk .nil; simpa using this
  | cons y l h1 h2 _ ih => rw [List.append_assoc]; exact .cons y _ h1 h2 ih
theorem Full.runs {k : Nat} {l r : List α} (h : Full key k l) (hr : Runs key k r) : Runs key k (l ++ r) := by
  induction h with
  | nil => exact hr
  | cons y l h1 h2 _ ih => rw [List.append_assoc]; exact .cons y _ h1 h2 ih
theorem Runs.first {k : Nat} {l : List α} (h : Runs key k l) (hk : k ≤ l.length) : ∃ x r, l = x ++ r ∧ Up key x ∧ x.length = k ∧ Runs key k r := by
  cases h with
  | last x h1 h2 => omega
  | cons x r h1 h2 h3 => exact ⟨x, r, rfl, h1, h2, h3⟩
theorem Runs.short {k : Nat} {l : List α} (h : Runs key k l) (hk : l.length < k) : Up key l := by
  cases h with
  | last x h1 h2 => exact h1
  | cons x r h1 h2 h3 => simp at hk; omega
theorem Runs.one {k : Nat} {l : List α} (h : Runs key k l) (hk : l.length ≤ k) : Up key l := by
  by_cases he : l.length < k
  · exact h.short he
  · obtain ⟨x, r, rfl, h1, h2, h3⟩ := h.first (by omega)
    have : r = [] := List.length_eq_zero_iff.1 (by simp at hk; omega)
    rw [this, List.append_nil]
    exact h1
end Srt
end Go.Proofs.Ytolfekbhlfjniaa
