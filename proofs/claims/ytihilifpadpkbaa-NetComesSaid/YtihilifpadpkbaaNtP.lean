/- Plain law of a net: what a tick makes of the letters that wait. -/
import Derived.Test.YtihilifpadpkbaaNtA
set_option linter.unusedVariables false
set_option linter.unusedSimpArgs false
namespace Go.Proofs.Ytihilifpadpkbaa
open Go.RowKit

namespace Nt
/-- the pick of the i-th letter -/
def pk (p : List Int) (i : Nat) : Int := match p[i]? with | some x => x % 8 | none => 0
theorem pk_bd (p : List Int) (i : Nat) : 0 ≤ pk p i ∧ pk p i ≤ 7 := by unfold pk; split <;> omega
/-- what becomes of a letter: 0 it comes, 1 it stays, 2 both, 3 it is lost -/
def fate (k : Int) (calm : Bool) (age p : Int) : Int := if (p % 4 = 3 ∧ calm = true) ∨ (¬ p % 4 = 3 ∧ k ≤ age) then 0 else p % 4
theorem fate_bd (k : Int) (calm : Bool) (age p : Int) : 0 ≤ fate k calm age p ∧ fate k calm age p ≤ 3 := by unfold fate; split <;> omega
def fateAt (k : Int) (calm : Bool) (p : List Int) (i : Nat) (h : Hd) : Int := fate k calm (h.age + 1) (pk p i)
/-- those of a list of which something is so, by their places -/
def sel {α : Type} (s : Nat → α → Bool) (l : List α) : List α := (l.zipIdx.filter fun q => s q.2 q.1).map (·.1)
theorem sel_snoc {α : Type} {s : Nat → α → Bool} {l : List α} {i : Nat} {x : α} (hx : l[i]? = some x) : sel s (l.take (i + 1)) = sel s (l.take i) ++ (if s i x = true then [x] else []) := by
  have hi := (List.getElem?_eq_some_iff.1 hx).1
  unfold sel
  rw [List.take_add_one, hx, List.zipIdx_append, List.filter_append, List.map_append]
  congr 1
  have hl : (l.take i).length = i := by rw [List.length_take]; omega
  by_cases h : s i x = true <;> simp [hl, h]
theorem sel_length {α : Type} (s : Nat → α → Bool) (l : List α) : (sel s l).length ≤ l.length := by
  unfold sel
  rw [List.length_map]
  refine Nat.le_trans (List.length_filter_le _ _) ?_
  rw [List.length_zipIdx]; exact Nat.le_refl _
theorem sel_mem {α : Type} {s : Nat → α → Bool} {l : List α} {x : α} (h : x ∈ sel s l) : x ∈ l := by
  unfold sel at h
  obtain ⟨q, hq, rfl⟩ := List.mem_map.1 h
  have h1 := (List.mem_filter.1 hq).1
  exact List.fst_mem_of_mem_zipIdx h1
def comeB (k : Int) (calm : Bool) (p : List Int) (i : Nat) (h : Hd) : Bool := decide (fateAt k calm p i h = 0) || decide (fateAt k calm p i h = 2)
def stayB (k : Int) (calm : Bool) (p : List Int) (i : Nat) (h : Hd) : Bool := decide (fateAt k calm p i h = 1) || decide (fateAt k calm p i h = 2)
def earlyB (p : List Int) (i : Nat) : Bool := decide (pk p i < 4)
def older (h : Hd) : Hd := ⟨h.l, h.age + 1⟩
def came (k : Int) (calm : Bool) (p : List Int) (l : List Hd) : List Lt := (sel (fun i h => comeB k calm p i h && earlyB p i) l).map (·.l)
def late (k : Int) (calm : Bool) (p : List Int) (l : List Hd) : List Lt := (sel (fun i h => comeB k calm p i h && !earlyB p i) l).map (·.l)
def stay (k : Int) (calm : Bool) (p : List Int) (l : List Hd) : List Hd := (sel (stayB k calm p) l).map older
def told (k : Int) (calm : Bool) (p : List Int) (l : List Hd) : List Lt := came k calm p l ++ late k calm p l
theorem came_snoc {k : Int} {calm : Bool} {p : List Int} {l : List Hd} {i : Nat} {x : Hd} (hx : l[i]? = some x) : came k calm p (l.take (i + 1)) = came k calm p (l.take i) ++ (if (comeB k calm p i x && earlyB p i) = true then [x.l] else []) := by
  unfold came; rw [sel_snoc hx, List.map_append]; split <;> rfl
theorem late_snoc {k : Int} {calm : Bool} {p : List Int} {l : List Hd} {i : Nat} {x : Hd} (hx : l[i]? = some x) : late k calm p (l.take (i + 1)) = late k calm p (l.take i) ++ (if (comeB k calm p i x && !earlyB p i) = true then [x.l] else []) := by
  unfold late; rw [sel_snoc hx, List.map_append]; split <;> rfl
theorem stay_snoc {k : Int} {calm : Bool} {p : List Int} {l : List Hd} {i : Nat} {x : Hd} (hx : l[i]? = some x) : stay k calm p (l.take (i + 1)) = stay k calm p (l.take i) ++ (if stayB k calm p i x = true then [older x] else []) := by
  unfold stay; rw [sel_snoc hx, List.map_append]; split <;> rfl
theorem came_le (k : Int) (calm : Bool) (p : List Int) (l : List Hd) : (came k calm p l).length ≤ l.length := by unfold came; rw [List.length_map]; exact sel_length _ _
theorem late_le (k : Int) (calm : Bool) (p : List Int) (l : List Hd) : (late k calm p l).length ≤ l.length := by unfold late; rw [List.length_map]; exact sel_length _ _
theorem stay_le (k : Int) (calm : Bool) (p : List Int) (l : List Hd) : (stay k calm p l).length ≤ l.length := by unfold stay; rw [List.length_map]; exact sel_length _ _
/-- those that stay are younger than k -/
theorem stay_age {k : Int} {calm : Bool} {p : List Int} {l : List Hd} {y : Hd} (h : y ∈ stay k calm p l) : ∃ x ∈ l, y = older x ∧ x.age + 1 < k := by
  unfold stay at h
  obtain ⟨x, hx, rfl⟩ := List.mem_map.1 h
  refine ⟨x, sel_mem hx, rfl, ?_⟩
  unfold sel at hx
  obtain ⟨q, hq, rfl⟩ := List.mem_map.1 hx
  have h1 := (List.mem_filter.1 hq).2
  have h1 : fateAt k calm p q.2 q.1 = 1 ∨ fateAt k calm p q.2 q.1 = 2 := by
    have h2 : stayB k calm p q.2 q.1 = true := h1
    unfold stayB at h2
    rcases Bool.or_eq_true _ _ ▸ h2 with h | h
    · exact .inl (of_decide_eq_true h)
    · exact .inr (of_decide_eq_true h)
  unfold fateAt fate at h1
  by_cases hn : (pk p q.2 % 4 = 3 ∧ calm = true) ∨ (¬ pk p q.2 % 4 = 3 ∧ k ≤ q.1.age + 1)
  · rw [if_pos hn] at h1; omega
  · rw [if_neg hn] at h1
    have := fun h => hn (.inr h)
    rcases Int.lt_or_le (q.1.age + 1) k with h | h
    · exact h
    · exact absurd ⟨by omega, h⟩ this
end Nt
end Go.Proofs.Ytihilifpadpkbaa
