/- Contracts of the report reference: Make, Same. Contracts: both Makes, of the one sorted list of the rows. -/
import Derived.Test.YtajpggnmhkpbkaaRfw35
import Derived.Test.YtajpggnmhkpbkaaRfw34
import Derived.Test.YtajpggnmhkpbkaaRfw33

section
set_option linter.unusedVariables false
set_option linter.unusedSimpArgs false
namespace Go.Proofs.Ytajpggnmhkpbkaa
open Go.RowKit

theorem own_two {w3 w4 W7 W : World} {base b0 e n m g : Nat} {v : Value} {xs : List Value} (h : w3.ownsRow base e n v m xs) (hb : Below w3.heap.size w3 w4) (h7 : Only w3.heap.size w4 W7) (ho : Only g W7 W) (hg : g < base) (h0 : b0 ≤ base) : W.ownsRow b0 e n v m xs := by
  refine own_lower (recs_keep h fun b hb' hlt => ?_) h0
  have := recs_base h hb'
  have h1 := hb.size
  have h2 := h7.size
  rw [ho.block b (by omega) (by omega), h7.block b (by omega) (by omega), hb.block b hlt]
theorem rMakeR_bad (from0 to0 : Int) (l : List Pst) (p : Option Addr) (n cap : Nat) (hbad : ¬ (Rep.days from0 to0 = true ∧ Rep.FineP l)) (w : World) (hs : PS w (.slice p n cap) l) :
    Calls Try.prog 52 #[.int .i64 from0, .int .i64 to0, .slice p n cap] w fun e w' => e = .returned (.tuple #[.agg #[.int .i64 0, .int .i64 0, .slice none 0 0, .int .i64 0, .int .i64 0, .int .i64 0, .int .i64 0, .int .i64 0, .int .i64 0, .int .i64 0], .int .i64 2]) ∧ Below w.heap.size w w' := by
  have HPS := Lib.hid hs
  clear hs
  by_cases hd : Rep.days from0 to0 = true
  · have HF : Hid (∀ W, PS W (.slice p n cap) l → _) := Lib.hid (fun W h => rFine_any l false (by
      constructor
      · intro h; cases h
      · intro h; exact absurd ⟨hd, h⟩ hbad) p n cap W h)
    have HD : Hid (∀ W, Calls Try.prog 69 #[.int .i64 from0, .int .i64 to0] W fun e w' => e = .returned (.bool true) ∧ W = w') := Lib.hid (fun W => by have := rDays_any from0 to0 W; rwa [hd] at this)
    clear hbad hd
    go_enter Try.func52, Try.ntmps52
    go_wp2_with fail
    refine (HD.out _).mono ?_
    rintro e w2 ⟨rfl, rfl⟩
    go_wp2_with fail
    refine (HF.out _ (HPS.out.below ((Below.refl _ _).alloc (Nat.le_refl _) _))).mono ?_
    rintro e w2 ⟨rfl, hb2⟩
    have hr2 := (hb2.block w.heap.size (by simp)).trans (new_row w (.cells #[.int .i64 0, .int .i64 0, .slice none 0 0, .int .i64 0, .int .i64 0, .int .i64 0, .int .i64 0, .int .i64 0, .int .i64 0, .int .i64 0] 43 (0, 0)) _ rfl)
    have HB2 := Lib.hid (((Below.refl w.heap.size w).alloc (Nat.le_refl _) _).trans (hb2.mono (by simp)))
    have hz := block_lt hr2
    have hc2 := fun j => cell_of_row w2 w.heap.size j _ _ _ hr2
    have hf2 := fun j => frozen_of_row w2 w.heap.size j _ _ hr2
    have HR2 := Lib.hid hr2
    clear hr2 hb2
    go_wp2
    have hrow := ten_row HR2.out (.int .i64 0) (.int .i64 0) (.slice none 0 0) (.int .i64 0) (.int .i64 0) (.int .i64 0) (.int .i64 0) (.int .i64 0) (.int .i64 0) (.int .i64 0)
    refine bodyPost_ret (v := .tuple #[.agg #[.int .i64 0, .int .i64 0, .slice none 0 0, .int .i64 0, .int .i64 0, .int .i64 0, .int .i64 0, .int .i64 0, .int .i64 0, .int .i64 0], .int .i64 2]) (by simp [results, Try.results52, go_sem, fun i => cell_of_row _ _ i _ _ _ hrow]) rfl ⟨rfl, ?_⟩
    exact ten_below HB2.out (Nat.le_refl _) _ _ _ _ _ _ _ _ _ _
  · have HD : Hid (∀ W, Calls Try.prog 69 #[.int .i64 from0, .int .i64 to0] W fun e w' => e = .returned (.bool false) ∧ W = w') := Lib.hid (fun W => by have := rDays_any from0 to0 W; rw [show Rep.days from0 to0 = false by simpa using hd] at this; exact this)
    clear hbad hd
    go_enter Try.func52, Try.ntmps52
    go_wp2_with fail
    refine (HD.out _).mono ?_
    rintro e w2 ⟨rfl, rfl⟩
    have HR2 := Lib.hid (new_row w (.cells #[.int .i64 0, .int .i64 0, .slice none 0 0, .int .i64 0, .int .i64 0, .int .i64 0, .int .i64 0, .int .i64 0, .int .i64 0, .int .i64 0] 43 (0, 0)) _ rfl)
    go_wp2
    first
      | (go_ret; exact ⟨rfl, (Below.refl _ _).alloc (Nat.le_refl _) _⟩)
      | (refine bodyPost_ret (v := .tuple #[.agg #[.int .i64 0, .int .i64 0, .slice none 0 0, .int .i64 0, .int .i64 0, .int .i64 0, .int .i64 0, .int .i64 0, .int .i64 0, .int .i64 0], .int .i64 2]) (by simp [results, Try.results52, go_sem]) rfl ⟨rfl, (Below.refl _ _).alloc (Nat.le_refl _) _⟩)

set_option maxRecDepth 4000 in
set_option maxHeartbeats 1000000 in
theorem rMakeR_ok (from0 to0 : Int) (l : List Pst) (p : Option Addr) (n cap : Nat) (hnb : n ≤ 1000000) (hd : Rep.days from0 to0 = true) (hfine : Rep.FineP l) (w : World) (hs : PS w (.slice p n cap) l) :
    Calls Try.prog 52 #[.int .i64 from0, .int .i64 to0, .slice p n cap] w fun e w' => ∃ (v : Value) (rows : List Pst) (ev m x0 x1 x2 x3 x4 x5 : Int), Post.sums rows = ⟨ev, m, [x0, x1, x2, x3, x4, x5]⟩ ∧
      Srt.Mix keyP (l.filter (Rep.within from0 to0)) rows ∧ Srt.Up keyP rows ∧ Mine Pst.cells 10 w' w.heap.size v rows ∧ Below w.heap.size w w' ∧ (ev = 0 ∧ e = .returned (.tuple #[.agg #[.int .i64 from0, .int .i64 to0, v, .int .i64 m, .int .i64 x0, .int .i64 x1, .int .i64 x2, .int .i64 x3, .int .i64 x4, .int .i64 x5], .int .i64 0]) ∨ ¬ ev = 0 ∧ e = .returned (.tuple #[.agg #[.int .i64 0, .int .i64 0, .slice none 0 0, .int .i64 0, .int .i64 0, .int .i64 0, .int .i64 0, .int .i64 0, .int .i64 0, .int .i64 0], .int .i64 ev])) := by
  have HPS := Lib.hid hs; have HWF := Lib.hid (ps_wf hs)
  have HT := Lib.hid (fun W h => rThose_any l from0 to0 p n cap hnb W h)
  have HF : Hid (∀ W, PS W (.slice p n cap) l → _) := Lib.hid (fun W h => rFine_any l true ⟨fun _ => hfine, fun _ => rfl⟩ p n cap W h)
  have HD : Hid (∀ W, Calls Try.prog 69 #[.int .i64 from0, .int .i64 to0] W fun e w' => e = .returned (.bool true) ∧ W = w') := Lib.hid (fun W => by have := rDays_any from0 to0 W; rwa [hd] at this)
  clear hs hd hfine
  go_enter Try.func52, Try.ntmps52
  go_wp2_with fail
  refine (HD.out _).mono ?_
  rintro e w2 ⟨rfl, rfl⟩
  go_wp2_with fail
  refine (HF.out _ (HPS.out.below ((Below.refl _ _).alloc (Nat.le_refl _) _))).mono ?_
  rintro e w2 ⟨rfl, hb2⟩
  have hr2 := (hb2.block w.heap.size (by simp)).trans (new_row w (.cells #[.int .i64 0, .int .i64 0, .slice none 0 0, .int .i64 0, .int .i64 0, .int .i64 0, .int .i64 0, .int .i64 0, .int .i64 0, .int .i64 0] 43 (0, 0)) _ rfl)
  have HB2 := Lib.hid (((Below.refl w.heap.size w).alloc (Nat.le_refl _) _).trans (hb2.mono (by simp)))
  have hz := block_lt hr2
  have HR2 := Lib.hid hr2
  clear hr2 hb2
  go_wp2_with fail
  refine (HT.out _ (HPS.out.below HB2.out)).mono ?_
  rintro e w3 ⟨v, rows, rfl, hm, hu, hown, hb3⟩
  have HM := Lib.hid hm; have HU := Lib.hid hu; have HOW := Lib.hid hown
  have HW3 : Hid (WF rows) := Lib.hid (fun z hz => HWF.out z (List.mem_filter.1 (hm.symm.mem hz)).1)
  have hr3 := (hb3.block w.heap.size hz).trans HR2.out
  have HB3 := Lib.hid (HB2.out.trans (hb3.mono HB2.out.size))
  have hz3 := block_lt hr3
  have hmine := Mine.of_own (own_lower hown HB2.out.size) Pst.cells_length (by decide)
  obtain ⟨p1, c1, hv⟩ := (hmine.ls Pst.cells_length (by decide)).shape
  subst hv
  have HMN := Lib.hid hmine
  have HR3 := Lib.hid hr3
  have HSUM := Lib.hid (Post.sums_fine rows)
  obtain ⟨x0, x1, x2, x3, x4, x5, hx⟩ := Post.six_of HSUM.out.1
  obtain ⟨m, hmm⟩ : ∃ m, (Post.sums rows).m = m := ⟨_, rfl⟩
  obtain ⟨ev, hev⟩ : ∃ m, (Post.sums rows).e = m := ⟨_, rfl⟩
  have HSM : Hid (Post.sums rows = ⟨ev, m, [x0, x1, x2, x3, x4, x5]⟩) := Lib.hid (by rw [← hx, ← hmm, ← hev])
  clear hx hmm hev HSUM hm hu hown hb3 hmine hr3
  have HS : Hid (∀ W, LS Pst.cells 10 W (.slice p1 rows.length c1) rows → _) := Lib.hid (fun W h => rSum_any rows p1 rows.length c1 rfl W (ps_of_ls h HW3.out) ev m x0 x1 x2 x3 x4 x5 HSM.out)
  have HLS := Lib.hid (HMN.out.ls Pst.cells_length (by decide))
  have hfin : ∀ W, Below w3.heap.size w3 W → Mine Pst.cells 10 W w.heap.size (.slice p1 rows.length c1) rows := fun W h => HMN.out.below h
  have HFIN := Lib.hid hfin
  clear hfin
  generalize hnn : rows.length = nn at *
  go_wp2_with fail
  refine (HS.out _ (HLS.out.alloc _)).mono ?_
  rintro e w4 ⟨rfl, hb4⟩
  have hr4 := (hb4.block w.heap.size (by simp; omega)).trans (row_alloc HR3.out _)
  have hr5 := (hb4.block w3.heap.size (by simp)).trans (new_row w3 _ _ rfl)
  have HB43 := Lib.hid (((Below.refl w3.heap.size w3).alloc (Nat.le_refl _) _).trans (hb4.mono (by simp)))
  have HB4 := Lib.hid (HB3.out.trans (HB43.out.mono HB3.out.size))
  have hz4 := block_lt hr4
  have hz5 := block_lt hr5
  have HR4 := Lib.hid hr4; have HR5 := Lib.hid hr5
  have hc4 := fun j => cell_of_row w4 w.heap.size j _ _ _ hr4
  have hf4 := fun j => frozen_of_row w4 w.heap.size j _ _ hr4
  have hc5 := fun j => cell_of_row w4 w3.heap.size j _ _ _ hr5
  have hf5 := fun j => frozen_of_row w4 w3.heap.size j _ _ hr5
  have hz33 : w.heap.size < w3.heap.size := hz3
  clear hr4 hr5 hb4
  by_cases he : ev = 0
  · subst he
    go_wp2
    have hO7 := (((((((Only.refl w3.heap.size w4).setCell 3 (.int .i64 m)).setCell 4 (.int .i64 x0)).setCell 5 (.int .i64 x1)).setCell 6 (.int .i64 x2)).setCell 7 (.int .i64 x3)).setCell 8 (.int .i64 x4)).setCell 9 (.int .i64 x5)
    have hr47 := (hO7.block w.heap.size hz4 (by omega)).trans HR4.out
    have hrow := row_alloc (ten_row hr47 (.int .i64 from0) (.int .i64 to0) (.slice p1 nn c1) (.int .i64 m) (.int .i64 x0) (.int .i64 x1) (.int .i64 x2) (.int .i64 x3) (.int .i64 x4) (.int .i64 x5)) (.cells #[.int .i64 m, .int .i64 x0, .int .i64 x1, .int .i64 x2, .int .i64 x3, .int .i64 x4, .int .i64 x5] 41 (0, 0))
    refine bodyPost_ret (v := .tuple #[.agg #[.int .i64 from0, .int .i64 to0, (.slice p1 nn c1), .int .i64 m, .int .i64 x0, .int .i64 x1, .int .i64 x2, .int .i64 x3, .int .i64 x4, .int .i64 x5], .int .i64 0]) (by simp [results, Try.results52, go_sem, fun i => cell_of_row _ _ i _ _ _ hrow]) rfl ⟨.slice p1 nn c1, rows, 0, m, x0, x1, x2, x3, x4, x5, HSM.out, HM.out, HU.out, ?_, ?_, .inl ⟨rfl, rfl⟩⟩
    · exact Mine.of_own (own_two HOW.out HB43.out hO7 ((ten_only (.refl _ _) _ _ _ _ _ _ _ _ _ _).alloc _) hz HB2.out.size) Pst.cells_length (by decide)
    · exact balloc (ten_below (Only.below HB4.out (Nat.le_of_lt hz33) (Nat.le_of_lt hz4) hO7) (Nat.le_refl _) _ _ _ _ _ _ _ _ _ _) _
  · go_wp2
    have hrow := row_alloc (ten_row HR4.out (.int .i64 0) (.int .i64 0) (.slice none 0 0) (.int .i64 0) (.int .i64 0) (.int .i64 0) (.int .i64 0) (.int .i64 0) (.int .i64 0) (.int .i64 0)) (.cells #[.int .i64 m, .int .i64 x0, .int .i64 x1, .int .i64 x2, .int .i64 x3, .int .i64 x4, .int .i64 x5] 41 (0, 0))
    refine bodyPost_ret (v := .tuple #[.agg #[.int .i64 0, .int .i64 0, .slice none 0 0, .int .i64 0, .int .i64 0, .int .i64 0, .int .i64 0, .int .i64 0, .int .i64 0, .int .i64 0], .int .i64 ev]) (by simp [results, Try.results52, go_sem, fun i => cell_of_row _ _ i _ _ _ hrow]) rfl ⟨.slice p1 nn c1, rows, ev, m, x0, x1, x2, x3, x4, x5, HSM.out, HM.out, HU.out, ?_, ?_, .inr ⟨he, rfl⟩⟩
    · exact Mine.of_own (own_only HOW.out HB43.out ((ten_only (.refl _ _) _ _ _ _ _ _ _ _ _ _).alloc _) hz HB2.out.size) Pst.cells_length (by decide)
    · exact balloc (ten_below HB4.out (Nat.le_refl _) _ _ _ _ _ _ _ _ _ _) _
end Go.Proofs.Ytajpggnmhkpbkaa
end

section
set_option linter.unusedVariables false
set_option linter.unusedSimpArgs false
namespace Go.Proofs.Ytajpggnmhkpbkaa
open Go.RowKit

namespace Srt
variable {α : Type}
def ins (key : α → Int) (a : α) : List α → List α
  | [] => [a]
  | b :: l => if key a ≤ key b then a :: b :: l else b :: ins key a l
theorem ins_mix (key : α → Int) (a : α) (l : List α) : Mix key (a :: l) (ins key a l) := by
  induction l with
  | nil => exact Mix.refl _
  | cons b l ih =>
    unfold ins
    split
    · exact Mix.refl _
    · rename_i h
      have h1 : Mix key ([a] ++ [b]) ([b] ++ [a]) := Mix.swap (by simp; omega)
      have h2 := h1.app (Mix.refl (key := key) l)
      have h3 := (Mix.refl (key := key) [b]).app ih
      exact Mix.trans (by simpa using h2) (by simpa using h3)
theorem ins_up {key : α → Int} (a : α) (l : List α) (hl : Up key l) : Up key (ins key a l) := by
  induction l with
  | nil => exact Up.one a
  | cons b l ih =>
    obtain ⟨h1, h2⟩ := List.pairwise_cons.1 hl
    unfold ins
    split
    · rename_i h
      refine List.pairwise_cons.2 ⟨fun x hx => ?_, hl⟩
      rcases List.mem_cons.1 hx with rfl | hx
      · exact h
      · have := h1 x hx; omega
    · rename_i h
      refine List.pairwise_cons.2 ⟨fun x hx => ?_, ih h2⟩
      rcases List.mem_cons.1 ((ins_mix key a l).symm.mem hx) with rfl | hx
      · omega
      · exact h1 x hx
def isort (key : α → Int) (l : List α) : List α := l.foldr (ins key) []
theorem isort_up (key : α → Int) (l : List α) : Up key (isort key l) := by
  induction l with
  | nil => exact Up.nil
  | cons a l ih => exact ins_up a _ ih
theorem isort_mix (key : α → Int) (l : List α) : Mix key l (isort key l) := by
  induction l with
  | nil => exact Mix.refl _
  | cons a l ih => exact Mix.trans (y := a :: isort key l) (by simpa using (Mix.refl (key := key) [a]).app ih) (ins_mix key a _)
end Srt

theorem make_fit (from0 to0 : Int) (l : List Pst) (p : Option Addr) (n cap : Nat) (hnb : n ≤ 1000000) (hd : Rep.days from0 to0 = true) (hfine : Rep.FineP l) (rows : List Pst) (hm : Srt.Mix keyP (l.filter (Rep.within from0 to0)) rows) (hu : Srt.Up keyP rows)
    (ev m x0 x1 x2 x3 x4 x5 : Int) (hsum : Post.sums rows = ⟨ev, m, [x0, x1, x2, x3, x4, x5]⟩) (w : World) (hs : PS w (.slice p n cap) l) :
    Calls Try.prog 16 #[.int .i64 from0, .int .i64 to0, .slice p n cap] w fun e w' => ∃ v : Value, Mine Pst.cells 10 w' w.heap.size v rows ∧ Below w.heap.size w w' ∧ (ev = 0 ∧ e = .returned (.tuple #[.agg #[.int .i64 from0, .int .i64 to0, v, .int .i64 m, .int .i64 x0, .int .i64 x1, .int .i64 x2, .int .i64 x3, .int .i64 x4, .int .i64 x5], .int .i64 0]) ∨ ¬ ev = 0 ∧ e = .returned (.tuple #[.agg #[.int .i64 0, .int .i64 0, .slice none 0 0, .int .i64 0, .int .i64 0, .int .i64 0, .int .i64 0, .int .i64 0, .int .i64 0, .int .i64 0], .int .i64 ev])) := by
  refine (make_ok from0 to0 l p n cap hnb hd hfine w hs).mono ?_
  rintro e w' ⟨v, rows', ev', m', y0, y1, y2, y3, y4, y5, h1, h2, h3, _, h4, h5, h6⟩
  obtain rfl : rows = rows' := hu.only _ _ h3 (hm.symm.trans h2)
  rw [hsum] at h1
  injection h1 with e1 e2 e3
  simp only [List.cons.injEq, and_true] at e3
  obtain ⟨e3, e4, e5, e6, e7, e8⟩ := e3
  subst e1 e2 e3 e4 e5 e6 e7 e8
  exact ⟨v, h4, h5, h6⟩
theorem rMakeR_fit (from0 to0 : Int) (l : List Pst) (p : Option Addr) (n cap : Nat) (hnb : n ≤ 1000000) (hd : Rep.days from0 to0 = true) (hfine : Rep.FineP l) (rows : List Pst) (hm : Srt.Mix keyP (l.filter (Rep.within from0 to0)) rows) (hu : Srt.Up keyP rows)
    (ev m x0 x1 x2 x3 x4 x5 : Int) (hsum : Post.sums rows = ⟨ev, m, [x0, x1, x2, x3, x4, x5]⟩) (w : World) (hs : PS w (.slice p n cap) l) :
    Calls Try.prog 52 #[.int .i64 from0, .int .i64 to0, .slice p n cap] w fun e w' => ∃ v : Value, Mine Pst.cells 10 w' w.heap.size v rows ∧ Below w.heap.size w w' ∧ (ev = 0 ∧ e = .returned (.tuple #[.agg #[.int .i64 from0, .int .i64 to0, v, .int .i64 m, .int .i64 x0, .int .i64 x1, .int .i64 x2, .int .i64 x3, .int .i64 x4, .int .i64 x5], .int .i64 0]) ∨ ¬ ev = 0 ∧ e = .returned (.tuple #[.agg #[.int .i64 0, .int .i64 0, .slice none 0 0, .int .i64 0, .int .i64 0, .int .i64 0, .int .i64 0, .int .i64 0, .int .i64 0, .int .i64 0], .int .i64 ev])) := by
  refine (rMakeR_ok from0 to0 l p n cap hnb hd hfine w hs).mono ?_
  rintro e w' ⟨v, rows', ev', m', y0, y1, y2, y3, y4, y5, h1, h2, h3, h4, h5, h6⟩
  obtain rfl : rows = rows' := hu.only _ _ h3 (hm.symm.trans h2)
  rw [hsum] at h1
  injection h1 with e1 e2 e3
  simp only [List.cons.injEq, and_true] at e3
  obtain ⟨e3, e4, e5, e6, e7, e8⟩ := e3
  subst e1 e2 e3 e4 e5 e6 e7 e8
  exact ⟨v, h4, h5, h6⟩
end Go.Proofs.Ytajpggnmhkpbkaa
end
