/- Contracts: both Makes, of the one sorted list of the rows. -/
import Derived.Test.YtolfekbhlfjniaaRepC
import Derived.Test.YtolfekbhlfjniaaRepE
set_option linter.unusedVariables false
set_option linter.unusedSimpArgs false
namespace Go.Proofs.Ytolfekbhlfjniaa
open Go.RowKit

namespace Srt
variable {α : Type}
def ins (key : α → Int) (a : α) : List α → List α
  | [] => [a]
  | b :: l => if key a ≤ key b then a :: b :: l else b :: ins key a l
theorem ins_mix (key : α → Int) (a : α) (l : List α) : Mix key (a :: l) (ins key a l) := by
  induction l with
  | nil => exact Mix.refl _
  | cons b l ih =>
    unfold ins
    split
    · exact Mix.refl _
    · rename_i h
      have h1 : Mix key ([a] ++ [b]) ([b] ++ [a]) := Mix.swap (by simp; omega)
      have h2 := h1.app (Mix.refl (key := key) l)
      have h3 := (Mix.refl (key := key) [b]).app ih
      exact Mix.trans (by simpa using h2) (by simpa using h3)
theorem ins_up {key : α → Int} (a : α) (l : List α) (hl : Up key l) : Up key (ins key a l) := by
  induction l with
  | nil => exact Up.one a
  | cons b l ih =>
    obtain ⟨h1, h2⟩ := List.pairwise_cons.1 hl
    unfold ins
    split
    · rename_i h
      refine List.pairwise_cons.2 ⟨fun x hx => ?_, hl⟩
      rcases List.mem_cons.1 hx with rfl | hx
      · exact h
      · have := h1 x hx; omega
    · rename_i h
      refine List.pairwise_cons.2 ⟨fun x hx => ?_, ih h2⟩
      rcases List.mem_cons.1 ((ins_mix key a l).symm.mem hx) with rfl | hx
      · omega
      · exact h1 x hx
def isort (key : α → Int) (l : List α) : List α := l.foldr (ins key) []
theorem isort_up (key : α → Int) (l : List α) : Up key (isort key l) := by
  induction l with
  | nil => exact Up.nil
  | cons a l ih => exact ins_up a _ ih
theorem isort_mix (key : α → Int) (l : List α) : Mix key l (isort key l) := by
  induction l with
  | nil => exact Mix.refl _
  | cons a l ih => exact Mix.trans (y := a :: isort key l) (by simpa using (Mix.refl (key := key) [a]).app ih) (ins_mix key a _)
end Srt

theorem make_fit (from0 to0 : Int) (l : List Pst) (p : Option Addr) (n cap : Nat) (hnb : n ≤ 1000000) (hd : Rep.days from0 to0 = true) (hfine : Rep.FineP l) (rows : List Pst) (hm : Srt.Mix keyP (l.filter (Rep.within from0 to0)) rows) (hu : Srt.Up keyP rows)
    (ev m x0 x1 x2 x3 x4 x5 : Int) (hsum : Post.sums rows = ⟨ev, m, [x0, x1, x2, x3, x4, x5]⟩) (w : World) (hs : PS w (.slice p n cap) l) :
    Calls Try.prog 9 #[.int .i64 from0, .int .i64 to0, .slice p n cap] w fun e w' => ∃ v : Value, Mine Pst.cells 10 w' w.heap.size v rows ∧ Below w.heap.size w w' ∧ (ev = 0 ∧ e = .returned (.tuple #[.agg #[.int .i64 from0, .int .i64 to0, v, .int .i64 m, .int .i64 x0, .int .i64 x1, .int .i64 x2, .int .i64 x3, .int .i64 x4, .int .i64 x5], .int .i64 0]) ∨ ¬ ev = 0 ∧ e = .returned (.tuple #[.agg #[.int .i64 0, .int .i64 0, .slice none 0 0, .int .i64 0, .int .i64 0, .int .i64 0, .int .i64 0, .int .i64 0, .int .i64 0, .int .i64 0], .int .i64 ev])) := by
  refine (make_ok from0 to0 l p n cap hnb hd hfine w hs).mono ?_
  rintro e w' ⟨v, rows', ev', m', y0, y1, y2, y3, y4, y5, h1, h2, h3, _, h4, h5, h6⟩
  obtain rfl : rows = rows' := hu.only _ _ h3 (hm.symm.trans h2)
  rw [hsum] at h1
  injection h1 with e1 e2 e3
  simp only [List.cons.injEq, and_true] at e3
  obtain ⟨e3, e4, e5, e6, e7, e8⟩ := e3
  subst e1 e2 e3 e4 e5 e6 e7 e8
  exact ⟨v, h4, h5, h6⟩
theorem rMakeR_fit (from0 to0 : Int) (l : List Pst) (p : Option Addr) (n cap : Nat) (hnb : n ≤ 1000000) (hd : Rep.days from0 to0 = true) (hfine : Rep.FineP l) (rows : List Pst) (hm : Srt.Mix keyP (l.filter (Rep.within from0 to0)) rows) (hu : Srt.Up keyP rows)
    (ev m x0 x1 x2 x3 x4 x5 : Int) (hsum : Post.sums rows = ⟨ev, m, [x0, x1, x2, x3, x4, x5]⟩) (w : World) (hs : PS w (.slice p n cap) l) :
    Calls Try.prog 10 #[.int .i64 from0, .int .i64 to0, .slice p n cap] w fun e w' => ∃ v : Value, Mine Pst.cells 10 w' w.heap.size v rows ∧ Below w.heap.size w w' ∧ (ev = 0 ∧ e = .returned (.tuple #[.agg #[.int .i64 from0, .int .i64 to0, v, .int .i64 m, .int .i64 x0, .int .i64 x1, .int .i64 x2, .int .i64 x3, .int .i64 x4, .int .i64 x5], .int .i64 0]) ∨ ¬ ev = 0 ∧ e = .returned (.tuple #[.agg #[.int .i64 0, .int .i64 0, .slice none 0 0, .int .i64 0, .int .i64 0, .int .i64 0, .int .i64 0, .int .i64 0, .int .i64 0, .int .i64 0], .int .i64 ev])) := by
  refine (rMakeR_ok from0 to0 l p n cap hnb hd hfine w hs).mono ?_
  rintro e w' ⟨v, rows', ev', m', y0, y1, y2, y3, y4, y5, h1, h2, h3, h4, h5, h6⟩
  obtain rfl : rows = rows' := hu.only _ _ h3 (hm.symm.trans h2)
  rw [hsum] at h1
  injection h1 with e1 e2 e3
  simp only [List.cons.injEq, and_true] at e3
  obtain ⟨e3, e4, e5, e6, e7, e8⟩ := e3
  subst e1 e2 e3 e4 e5 e6 e7 e8
  exact ⟨v, h4, h5, h6⟩
end Go.Proofs.Ytolfekbhlfjniaa
