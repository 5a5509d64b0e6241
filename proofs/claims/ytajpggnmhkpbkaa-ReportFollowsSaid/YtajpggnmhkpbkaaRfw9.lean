/- Plain definitions and facts on totals of postings; no program in sight. Small words on worlds; the contract of the posting chapter's rows (known). -/
import Derived.Test.YtajpggnmhkpbkaaRfw8
import Derived.Test.YtajpggnmhkpbkaaRfw7

section
set_option linter.unusedVariables false
namespace Go.Proofs.Ytajpggnmhkpbkaa.Post

def zeros6 : List Int := [0, 0, 0, 0, 0, 0]
def addAm (a b : List Int) : List Int := List.zipWith (· + ·) a b
/-- the totals, from some on, of amounts; none: beyond the bound -/
def run : List Int → List (List Int) → Option (List Int)
  | a, [] => some a
  | a, p :: ps => if (addAm a p).any (outB 1152921504606846976) then none else run (addAm a p) ps
/-- an error's number, how many, the totals -/
structure Tot where
  e : Int
  m : Int
  x : List Int
def sums (l : List Pst) : Tot :=
  if l.any (fun p => !p.may) then ⟨2, 0, zeros6⟩
  else match run zeros6 (l.map Pst.am) with
    | none => ⟨14, 0, zeros6⟩
    | some a => ⟨0, l.length, a⟩

theorem addAm_length {a b : List Int} (ha : a.length = 6) (hb : b.length = 6) : (addAm a b).length = 6 := by simp [addAm, ha, hb]
theorem six_of {a : List Int} (h : a.length = 6) : ∃ x0 x1 x2 x3 x4 x5, a = [x0, x1, x2, x3, x4, x5] := by
  match a, h with
  | [x0, x1, x2, x3, x4, x5], _ => exact ⟨x0, x1, x2, x3, x4, x5, rfl⟩
theorem sum_add {a b : List Int} (ha : a.length = 6) (hb : b.length = 6) : sum (addAm a b) = sum a + sum b := by
  obtain ⟨x0, x1, x2, x3, x4, x5, rfl⟩ := six_of ha
  obtain ⟨y0, y1, y2, y3, y4, y5, rfl⟩ := six_of hb
  simp [addAm, sum]; omega
/-- what holds of amounts that were gone through: six, within the bound, of sum 0 -/
def Fine (a : List Int) : Prop := a.length = 6 ∧ a.any (outB 1152921504606846976) = false ∧ sum a = 0
theorem fine_zeros : Fine zeros6 := by refine ⟨rfl, by decide, by decide⟩
theorem run_fine {a b : List Int} (ha : Fine a) {l : List (List Int)} (hl : ∀ p ∈ l, p.length = 6 ∧ sum p = 0) (h : run a l = some b) : Fine b := by
  induction l generalizing a with
  | nil => unfold run at h; injection h with h; exact h ▸ ha
  | cons p ps ih =>
    unfold run at h
    split at h
    · cases h
    · rename_i hn
      have hp := hl p (by simp)
      exact ih ⟨addAm_length ha.1 hp.1, by simpa using hn, by rw [sum_add ha.1 hp.1, ha.2.2, hp.2]; rfl⟩ (fun q hq => hl q (by simp [hq])) h
theorem may_sum {p : Pst} (h : p.may = true) : sum p.am = 0 := by
  unfold Pst.may may cols at h
  simp only [Bool.and_eq_true, decide_eq_true_eq] at h
  exact h.1.1.1.1.1.2.1.2
theorem may_bound {p : Pst} (h : p.may = true) : p.am.any (outB 1125899906842624) = false := by
  unfold Pst.may may cols at h
  simp only [Bool.and_eq_true] at h
  have := h.1.1.1.1.1.2.1.1.1
  simpa using this
theorem sums_fine (l : List Pst) : Fine (sums l).x := by
  unfold sums
  split
  · exact fine_zeros
  · rename_i hn
    split
    · exact fine_zeros
    · rename_i a ha
      refine run_fine fine_zeros ?_ ha
      intro p hp
      obtain ⟨q, hq, rfl⟩ := List.mem_map.1 hp
      refine ⟨rfl, may_sum ?_⟩
      simp only [Bool.not_eq_true, List.any_eq_false] at hn
      simpa using hn q hq
theorem sums_not {l : List Pst} (h : l.any (fun p => !p.may) = true) : sums l = ⟨2, 0, zeros6⟩ := by unfold sums; rw [if_pos h]
theorem sums_far {l : List Pst} (h : l.any (fun p => !p.may) = false) (h' : run zeros6 (l.map Pst.am) = none) : sums l = ⟨14, 0, zeros6⟩ := by unfold sums; rw [if_neg (by simp [h]), h']
theorem sums_are {l : List Pst} {a : List Int} (h : l.any (fun p => !p.may) = false) (h' : run zeros6 (l.map Pst.am) = some a) : sums l = ⟨0, l.length, a⟩ := by unfold sums; rw [if_neg (by simp [h]), h']
theorem run_out {a p : List Int} {ps : List (List Int)} (h : (addAm a p).any (outB 1152921504606846976) = true) : run a (p :: ps) = none := by unfold run; rw [if_pos h]
theorem run_on {a p : List Int} {ps : List (List Int)} (h : (addAm a p).any (outB 1152921504606846976) = false) : run a (p :: ps) = run (addAm a p) ps := by
  show (if _ then none else _) = _
  rw [if_neg (by simp [h])]
/-- where the first j are added -/
def part (j : Nat) (a b : List Int) : List Int := (addAm a b).take j ++ a.drop j
theorem part_zero (a b : List Int) : part 0 a b = a := by simp [part]
theorem part_six {a b : List Int} (ha : a.length = 6) (hb : b.length = 6) : part 6 a b = addAm a b := by
  unfold part
  rw [List.take_of_length_le (by rw [addAm_length ha hb]; omega), List.drop_of_length_le (by omega), List.append_nil]
theorem part_length {a b : List Int} (ha : a.length = 6) (hb : b.length = 6) (j : Nat) (hj : j ≤ 6) : (part j a b).length = 6 := by
  unfold part; rw [List.length_append, List.length_take, List.length_drop, addAm_length ha hb]; omega
theorem part_at {a b : List Int} (ha : a.length = 6) (hb : b.length = 6) {j : Nat} (hj : j < 6) : (part j a b).getD j 0 = a.getD j 0 := by
  unfold part
  have : ((addAm a b).take j).length = j := by rw [List.length_take, addAm_length ha hb]; omega
  simp only [List.getD_eq_getElem?_getD]
  rw [List.getElem?_append_right (by omega), this, List.getElem?_drop]
  simp
theorem part_set {a b : List Int} (ha : a.length = 6) (hb : b.length = 6) {j : Nat} (hj : j < 6) : (part j a b).set j (a.getD j 0 + b.getD j 0) = part (j + 1) a b := by
  obtain ⟨x0, x1, x2, x3, x4, x5, rfl⟩ := six_of ha
  obtain ⟨y0, y1, y2, y3, y4, y5, rfl⟩ := six_of hb
  rcases (by omega : j = 0 ∨ j = 1 ∨ j = 2 ∨ j = 3 ∨ j = 4 ∨ j = 5) with rfl | rfl | rfl | rfl | rfl | rfl <;> rfl
theorem amRow_put (cs : List Int) (j : Nat) (v : Int) : (amRow cs).setIfInBounds j (.int .i64 v) = amRow (cs.set j v) := by
  unfold amRow; simp [List.map_set]
theorem any_getD {bd : Int} {l : List Int} (h : l.any (outB bd) = false) {i : Nat} (hi : i < l.length) : -bd ≤ l.getD i 0 ∧ l.getD i 0 ≤ bd := by
  refine any_in h ?_
  rw [List.getD_eq_getElem?_getD, List.getElem?_eq_getElem hi]
  exact List.getElem_mem hi
end Go.Proofs.Ytajpggnmhkpbkaa.Post
end

section
set_option linter.unusedVariables false
set_option linter.unusedSimpArgs false
namespace Go.Proofs.Ytajpggnmhkpbkaa
open Go.ChangeShapes Go.WideShapes Go.ChangeAt Go.RowKit

theorem i64_bd {n : Int} (h : (Lit.int .i64 n).wf = true) : -9223372036854775808 ≤ n ∧ n ≤ 9223372036854775807 := by
  simpa [Lit.wf, IntKind.min, IntKind.max, IntKind.signed, IntKind.bits] using h
theorem u64_bd {n : Int} (h : (Lit.int .u64 n).wf = true) : 0 ≤ n ∧ n ≤ 18446744073709551615 := by
  simpa [Lit.wf, IntKind.min, IntKind.max, IntKind.signed, IntKind.bits] using h
theorem balloc {a w : World} (h : Below a.heap.size a w) (o : Obj) : Below a.heap.size a (w.alloc o) := h.alloc h.size o
theorem below_call {a w w' : World} (h : Below a.heap.size a w) (hx : Below w.heap.size w w') : Below a.heap.size a w' := h.trans (hx.mono h.size)

end Go.Proofs.Ytajpggnmhkpbkaa
end
