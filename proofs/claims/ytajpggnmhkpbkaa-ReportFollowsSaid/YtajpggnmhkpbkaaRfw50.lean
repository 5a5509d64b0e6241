/- Reports in a row of reports; days that follow each other; Make, Join, Split and Same of the rows of such days. -/
import Derived.Test.YtajpggnmhkpbkaaRfw49
import Derived.Test.YtajpggnmhkpbkaaRfw42
import Derived.Test.YtajpggnmhkpbkaaRfw48

set_option linter.unusedVariables false
set_option linter.unusedSimpArgs false
namespace Go.Proofs.Ytajpggnmhkpbkaa
open Go.RowKit
/-- the sums of the rows of some days -/
structure Rep.Cols where
  N : Int → Int → Int
  c0 : Int → Int → Int
  c1 : Int → Int → Int
  c2 : Int → Int → Int
  c3 : Int → Int → Int
  c4 : Int → Int → Int
  c5 : Int → Int → Int
/-- a report in memory: its days, and where its rows lie -/
structure Rpr where
  a : Int
  b : Int
  p : Option Addr
  k : Nat
  c : Nat
def Rpr.cells (F : Rep.Cols) (r : Rpr) : List Value := [.int .i64 r.a, .int .i64 r.b, .slice r.p r.k r.c, .int .i64 (F.N r.a r.b), .int .i64 (F.c0 r.a r.b), .int .i64 (F.c1 r.a r.b), .int .i64 (F.c2 r.a r.b), .int .i64 (F.c3 r.a r.b), .int .i64 (F.c4 r.a r.b), .int .i64 (F.c5 r.a r.b)]
def Rpr.v (r : Rpr) : Value := .slice r.p r.k r.c
theorem Rpr.cells_length (F : Rep.Cols) (r : Rpr) : (r.cells F).length = 10 := rfl
theorem Rpr.cells_all (F : Rep.Cols) (r : Rpr) : (r.cells F).all (·.oneCell') = true := rfl
theorem elemR (F : Rep.Cols) : Elem Try.prog (Rpr.cells F) 10 96 46 43 := Elem.of Try.underlying46 (by kernel_rfl) (by decide) (by decide) (Rpr.cells_length F) (fun r u hu => List.all_eq_true.1 (Rpr.cells_all F r) u hu)
/-- days that follow each other, from one on, up to the one ahead of another one -/
def Chain : Int → Int → List Rpr → Prop
  | f, t, [] => f = t
  | f, t, r :: l => r.a = f ∧ f ≤ r.b ∧ Chain (r.b + 1) t l
theorem Chain.le : ∀ {f t : Int} {l : List Rpr}, Chain f t l → f ≤ t
  | f, t, [], h => by unfold Chain at h; omega
  | f, t, r :: l, h => by
    obtain ⟨h1, h2, h3⟩ := h
    have := h3.le
    omega
theorem Chain.snoc : ∀ {f t : Int} {l : List Rpr} {r : Rpr}, Chain f t l → r.a = t → t ≤ r.b → Chain f (r.b + 1) (l ++ [r])
  | f, t, [], r, h, h1, h2 => by
    unfold Chain at h
    subst h
    exact ⟨h1, h2, rfl⟩
  | f, t, q :: l, r, ⟨g1, g2, g3⟩, h1, h2 => ⟨g1, g2, g3.snoc h1 h2⟩
theorem Chain.only : ∀ {f t u : Int} {l : List Rpr}, Chain f t l → Chain f u l → t = u
  | f, t, u, [], h, k => by unfold Chain at h k; omega
  | f, t, u, r :: l, ⟨_, _, h⟩, ⟨_, _, k⟩ => h.only k
theorem Chain.take : ∀ {f t : Int} {l : List Rpr} {i : Nat} {r : Rpr}, Chain f t l → l[i]? = some r → Chain f r.a (l.take i) ∧ r.a ≤ r.b ∧ Chain (r.b + 1) t (l.drop (i + 1)) ∧ f ≤ r.a ∧ r.b + 1 ≤ t
  | f, t, [], i, r, h, hr => by cases hr
  | f, t, q :: l, 0, r, ⟨g1, g2, g3⟩, hr => by
    simp at hr
    subst hr
    refine ⟨?_, by omega, by simpa using g3, by omega, g3.le⟩
    show f = q.a
    omega
  | f, t, q :: l, i + 1, r, ⟨g1, g2, g3⟩, hr => by
    have hr' : l[i]? = some r := by simpa using hr
    obtain ⟨h1, h2, h3, h4, h5⟩ := g3.take hr'
    exact ⟨⟨g1, g2, h1⟩, h2, by simpa using h3, by omega, h5⟩
/-- its rows lie in memory, in no older block than base -/
def OneR (R : Int → Int → List Pst) (base : Nat) (W : World) (r : Rpr) : Prop := LS Pst.cells 10 W r.v (R r.a r.b) ∧ ∀ g, r.v.ownBlock = some g → base ≤ g ∧ g < W.heap.size
theorem OneR.below {R : Int → Int → List Pst} {base : Nat} {W W' : World} {r : Rpr} (h : OneR R base W r) (hb : Below W.heap.size W W') : OneR R base W' r := ⟨h.1.below hb, fun g hg => ⟨(h.2 g hg).1, Nat.lt_of_lt_of_le (h.2 g hg).2 hb.size⟩⟩
theorem OneR.lower {R : Int → Int → List Pst} {base base' : Nat} {W : World} {r : Rpr} (h : OneR R base W r) (hb : base' ≤ base) : OneR R base' W r := ⟨h.1, fun g hg => ⟨Nat.le_trans hb (h.2 g hg).1, (h.2 g hg).2⟩⟩
theorem OneR.only {R : Int → Int → List Pst} {base g : Nat} {W W' : World} {r : Rpr} (h : OneR R base W r) (hw : Only g W W') (hne : r.v.ownBlock ≠ some g) : OneR R base W' r :=
  ⟨h.1.keep hw.size (fun b hb hl => hw.block b hl (fun e => hne (by rw [hb, e]))), fun b hb => ⟨(h.2 b hb).1, Nat.lt_of_lt_of_le (h.2 b hb).2 hw.size⟩⟩
theorem OneR.grown {R : Int → Int → List Pst} {base : Nat} {W W' : World} {row : Option Nat} {r : Rpr} (h : OneR R base W r) (hw : W.grownBy W' row) (hne : ∀ g, r.v.ownBlock = some g → row ≠ some g) : OneR R base W' r :=
  ⟨h.1.keep hw.size (fun b hb hl => hw.block b hl (fun e => hne b hb e.symm)), fun b hb => ⟨(h.2 b hb).1, Nat.lt_of_lt_of_le (h.2 b hb).2 hw.size⟩⟩
theorem oneR_of_mine {R : Int → Int → List Pst} {base : Nat} {W : World} {r : Rpr} (h : Mine Pst.cells 10 W base r.v (R r.a r.b)) : OneR R base W r := by
  refine ⟨h.ls Pst.cells_length (by decide), fun g hg => ?_⟩
  rcases h with ⟨e, _⟩ | ⟨k, cap, e, h1, h2, _⟩
  · rw [e] at hg; cases hg
  · rw [e] at hg
    injection hg with hg
    have : k = g := hg
    omega
/-- the sums of the rows of postings that may be -/
def Rep.colsOf (l : List Pst) : Rep.Cols := ⟨fun a b => (Rep.rows a b l).length, fun a b => Post.colS (·.a0) (Rep.rows a b l), fun a b => Post.colS (·.a1) (Rep.rows a b l), fun a b => Post.colS (·.a2) (Rep.rows a b l), fun a b => Post.colS (·.a3) (Rep.rows a b l), fun a b => Post.colS (·.a4) (Rep.rows a b l), fun a b => Post.colS (·.a5) (Rep.rows a b l)⟩
theorem LS.onlyR {α : Type} {enc : α → List Value} {n g : Nat} {w w' : World} {v : Value} {l : List α} (h : LS enc n w v l) (hw : Only g w w') (hne : v.ownBlock ≠ some g) : LS enc n w' v l := h.keep hw.size (fun b hb hl => hw.block b hl (fun e => hne (by rw [hb, e])))
/-- rows of postings do not lie in an empty report's box -/
theorem Mine.offR {W W' : World} {B N : Nat} {v : Value} {l : List Pst} (h : Mine Pst.cells 10 W B v l) (hz : W.heap[N]? = some (.cells #[.int .i64 0, .int .i64 0, .slice none 0 0, .int .i64 0, .int .i64 0, .int .i64 0, .int .i64 0, .int .i64 0, .int .i64 0, .int .i64 0] 43 (0, 0))) (hw : Only N W W') : LS Pst.cells 10 W' v l := by
  rcases h with ⟨rfl, rfl⟩ | ⟨g, cap, rfl, h1, h2, h3, h4, h5⟩
  · exact LS.nil _
  · by_cases hl : l = []
    · subst hl
      exact ⟨_, cap, rfl, h3, h4, fun h => absurd rfl h⟩
    · refine (h5.slice Pst.cells_length (by decide) h3 h4).onlyR hw (fun e => ?_)
      injection e with e
      have e : g = N := e
      subst e
      obtain ⟨x, hx⟩ : ∃ x, l[0]? = some x := ⟨_, List.getElem?_eq_getElem (List.length_pos_iff.2 hl)⟩
      have c1 : W.cell? ⟨g, 0 * 10 + 1, none⟩ = some (.int .u64 x.t) := h5.1 0 x hx 1 _ rfl
      rw [cell_of_row W g _ _ _ _ hz] at c1
      cases c1
theorem Mine.inR {W : World} {B : Nat} {v : Value} {l : List Pst} (h : Mine Pst.cells 10 W B v l) : ∀ g, v.ownBlock = some g → B ≤ g ∧ g < W.heap.size := by
  intro g hg
  rcases h with ⟨e, _⟩ | ⟨k, cap, e, h1, h2, _⟩
  · rw [e] at hg; cases hg
  · rw [e] at hg
    injection hg with hg
    have : k = g := hg
    omega
theorem boxR (w : World) (F : Rep.Cols) (r : Rpr) : ((w.alloc (.cells #[.int .i64 0, .int .i64 0, .slice none 0 0, .int .i64 0, .int .i64 0, .int .i64 0, .int .i64 0, .int .i64 0, .int .i64 0, .int .i64 0] 43 (0, 0))).setCells w.heap.size 0 (r.cells F)).heap[w.heap.size]? = some (.cells (r.cells F).toArray 43 (0, 0)) ∧ Below w.heap.size w ((w.alloc (.cells #[.int .i64 0, .int .i64 0, .slice none 0 0, .int .i64 0, .int .i64 0, .int .i64 0, .int .i64 0, .int .i64 0, .int .i64 0, .int .i64 0] 43 (0, 0))).setCells w.heap.size 0 (r.cells F)) ∧ w.heap.size < ((w.alloc (.cells #[.int .i64 0, .int .i64 0, .slice none 0 0, .int .i64 0, .int .i64 0, .int .i64 0, .int .i64 0, .int .i64 0, .int .i64 0, .int .i64 0] 43 (0, 0))).setCells w.heap.size 0 (r.cells F)).heap.size :=
  ⟨setCells_rowA (new_row w (.cells #[.int .i64 0, .int .i64 0, .slice none 0 0, .int .i64 0, .int .i64 0, .int .i64 0, .int .i64 0, .int .i64 0, .int .i64 0, .int .i64 0] 43 (0, 0)) _ rfl) rfl, Only.below ((Below.refl w.heap.size w).alloc (Nat.le_refl _) (.cells #[.int .i64 0, .int .i64 0, .slice none 0 0, .int .i64 0, .int .i64 0, .int .i64 0, .int .i64 0, .int .i64 0, .int .i64 0, .int .i64 0] 43 (0, 0))) (Nat.le_refl _) ((Below.refl w.heap.size w).alloc (Nat.le_refl _) (.cells #[.int .i64 0, .int .i64 0, .slice none 0 0, .int .i64 0, .int .i64 0, .int .i64 0, .int .i64 0, .int .i64 0, .int .i64 0, .int .i64 0] 43 (0, 0))).size ((Only.refl _ _).setCells 0 _), block_lt (setCells_rowA (new_row w (.cells #[.int .i64 0, .int .i64 0, .slice none 0 0, .int .i64 0, .int .i64 0, .int .i64 0, .int .i64 0, .int .i64 0, .int .i64 0, .int .i64 0] 43 (0, 0)) _ rfl) rfl)⟩
theorem boxR2 (w : World) (F : Rep.Cols) (r s : Rpr) (W : World) (hW : W = (((w.alloc (.cells #[.int .i64 0, .int .i64 0, .slice none 0 0, .int .i64 0, .int .i64 0, .int .i64 0, .int .i64 0, .int .i64 0, .int .i64 0, .int .i64 0] 43 (0, 0))).alloc (.cells #[.int .i64 0, .int .i64 0, .slice none 0 0, .int .i64 0, .int .i64 0, .int .i64 0, .int .i64 0, .int .i64 0, .int .i64 0, .int .i64 0] 43 (0, 0))).setCells w.heap.size 0 (r.cells F)).setCells (w.heap.size + 1) 0 (s.cells F)) :
    W.heap[w.heap.size]? = some (.cells (r.cells F).toArray 43 (0, 0)) ∧ W.heap[w.heap.size + 1]? = some (.cells (s.cells F).toArray 43 (0, 0)) ∧ Below w.heap.size w W := by
  subst hW
  have h1 := row_alloc (new_row w (.cells #[.int .i64 0, .int .i64 0, .slice none 0 0, .int .i64 0, .int .i64 0, .int .i64 0, .int .i64 0, .int .i64 0, .int .i64 0, .int .i64 0] 43 (0, 0)) _ rfl) (.cells #[.int .i64 0, .int .i64 0, .slice none 0 0, .int .i64 0, .int .i64 0, .int .i64 0, .int .i64 0, .int .i64 0, .int .i64 0, .int .i64 0] 43 (0, 0))
  have h2 := new_row (w.alloc (.cells #[.int .i64 0, .int .i64 0, .slice none 0 0, .int .i64 0, .int .i64 0, .int .i64 0, .int .i64 0, .int .i64 0, .int .i64 0, .int .i64 0] 43 (0, 0))) (.cells #[.int .i64 0, .int .i64 0, .slice none 0 0, .int .i64 0, .int .i64 0, .int .i64 0, .int .i64 0, .int .i64 0, .int .i64 0, .int .i64 0] 43 (0, 0)) (w.heap.size + 1) (by simp)
  have b1 := ((Below.refl w.heap.size w).alloc (Nat.le_refl _) (.cells #[.int .i64 0, .int .i64 0, .slice none 0 0, .int .i64 0, .int .i64 0, .int .i64 0, .int .i64 0, .int .i64 0, .int .i64 0, .int .i64 0] 43 (0, 0))).alloc (by simp) (.cells #[.int .i64 0, .int .i64 0, .slice none 0 0, .int .i64 0, .int .i64 0, .int .i64 0, .int .i64 0, .int .i64 0, .int .i64 0, .int .i64 0] 43 (0, 0))
  have o1 : Only w.heap.size ((w.alloc (.cells #[.int .i64 0, .int .i64 0, .slice none 0 0, .int .i64 0, .int .i64 0, .int .i64 0, .int .i64 0, .int .i64 0, .int .i64 0, .int .i64 0] 43 (0, 0))).alloc (.cells #[.int .i64 0, .int .i64 0, .slice none 0 0, .int .i64 0, .int .i64 0, .int .i64 0, .int .i64 0, .int .i64 0, .int .i64 0, .int .i64 0] 43 (0, 0))) _ := (Only.refl _ _).setCells 0 (r.cells F)
  have h1' := setCells_rowA (cs := r.cells F) h1 rfl
  have h2' := (o1.block _ (block_lt h2) (by omega)).trans h2
  have b2 := Only.below b1 (Nat.le_refl _) b1.size o1
  have o2 : Only (w.heap.size + 1) (((w.alloc (.cells #[.int .i64 0, .int .i64 0, .slice none 0 0, .int .i64 0, .int .i64 0, .int .i64 0, .int .i64 0, .int .i64 0, .int .i64 0, .int .i64 0] 43 (0, 0))).alloc (.cells #[.int .i64 0, .int .i64 0, .slice none 0 0, .int .i64 0, .int .i64 0, .int .i64 0, .int .i64 0, .int .i64 0, .int .i64 0, .int .i64 0] 43 (0, 0))).setCells w.heap.size 0 (r.cells F)) _ := (Only.refl _ _).setCells 0 (s.cells F)
  exact ⟨(o2.block _ (block_lt h1') (by omega)).trans h1', setCells_rowA h2' rfl, Only.below b2 (by omega) b2.size o2⟩
theorem makeF_any (a b : Int) (l : List Pst) (p : Option Addr) (n cap : Nat) (hw : WF l) (hf : Rep.FineP l) (hn : l.length ≤ 60) (hd : Rep.days a b = true) (W : World) (hs : PS W (.slice p n cap) l) :
    Calls Try.prog 16 #[.int .i64 a, .int .i64 b, .slice p n cap] W fun e w' => ∃ r : Rpr, r.a = a ∧ r.b = b ∧ e = .returned (.tuple #[.agg (r.cells (Rep.colsOf l)).toArray, .int .i64 0]) ∧ OneR (fun a b => Rep.rows a b l) W.heap.size w' r ∧ Below W.heap.size W w' := by
  refine (make_fit a b l p n cap (by have := (ps_len hs).1; omega) hd hf (Rep.rows a b l) (Srt.isort_mix _ _) (Srt.isort_up _ _) 0 _ _ _ _ _ _ _ (Rep.rows_sums hf hn) W hs).mono ?_
  rintro e w' ⟨v, hm, hb, ⟨_, rfl⟩ | ⟨h, _⟩⟩
  · obtain ⟨q, k, c, rfl⟩ := hm.one
    exact ⟨⟨a, b, q, k, c⟩, rfl, rfl, rfl, oneR_of_mine (r := ⟨a, b, q, k, c⟩) hm, hb⟩
  · exact absurd rfl h
theorem days_of {a b : Int} : Rep.days a b = true ↔ 0 ≤ a ∧ a ≤ b ∧ b ≤ 1000000 := by
  unfold Rep.days
  simp [and_assoc]
theorem joinF_any (l : List Pst) (hw : WF l) (hf : Rep.FineP l) (hn : l.length ≤ 60) (r s : Rpr) (h0 : 0 ≤ r.a) (h1 : r.a ≤ r.b) (h2 : s.a = r.b + 1) (h3 : s.a ≤ s.b) (h4 : s.b ≤ 1000000) (W : World) (hr : LS Pst.cells 10 W r.v (Rep.rows r.a r.b l)) (hs : LS Pst.cells 10 W s.v (Rep.rows s.a s.b l)) :
    Calls Try.prog 17 #[.agg (r.cells (Rep.colsOf l)).toArray, .agg (s.cells (Rep.colsOf l)).toArray] W fun e w' => ∃ t : Rpr, t.a = r.a ∧ t.b = s.b ∧ e = .returned (.tuple #[.agg (t.cells (Rep.colsOf l)).toArray, .int .i64 0]) ∧ Mine Pst.cells 10 w' W.heap.size t.v (Rep.rows t.a t.b l) ∧ Below W.heap.size W w' := by
  obtain ⟨a, b, p, k, c⟩ := r
  obtain ⟨a', b', p', k', c'⟩ := s
  dsimp only at h0 h1 h2 h3 h4
  have hda : Rep.days a b = true := days_of.2 (by omega)
  have hdb : Rep.days a' b' = true := days_of.2 (by omega)
  have hdc : Rep.days a b' = true := days_of.2 (by omega)
  have hl1 := hr.length
  have hl2 := hs.length
  dsimp only at hl1 hl2
  have hq1 := Rep.rows_length a b l
  have hq2 := Rep.rows_length a' b' l
  subst h2
  refine join_any a b (Rep.rows a b l) p k c _ _ _ _ _ _ _ (b + 1) b' (Rep.rows (b + 1) b' l) p' k' c' _ _ _ _ _ _ _ true true ⟨fun _ => Rep.rows_may hf hn hda, fun _ => rfl⟩ ⟨fun _ => Rep.rows_may hf hn hdb, fun _ => rfl⟩ (by omega) (by omega) W (ps_of_ls hr (Rep.rows_wf hw)) (ps_of_ls hs (Rep.rows_wf hw)) _ ?_ ?_ ?_
  · intro w' hng hb
    exact absurd ⟨rfl, rfl, rfl, Rep.rows_both (by omega) (by omega) hf⟩ hng
  · intro w' v s M z0 z1 z2 z3 z4 z5 hg hsum hp hst hm hb
    obtain rfl := Rep.rows_join (show a ≤ b + 1 by omega) (show b ≤ b' by omega) hw hf hn hdc hst hp
    obtain ⟨q, k0, c0, rfl⟩ := hm.one
    rw [Rep.rows_sums hf hn] at hsum
    injection hsum with _ e2 e3
    unfold Rep.cols at e3
    simp only [List.cons.injEq, and_true] at e3
    obtain ⟨e3, e4, e5, e6, e7, e8⟩ := e3
    subst e2 e3 e4 e5 e6 e7 e8
    exact ⟨⟨a, b', q, k0, c0⟩, rfl, rfl, rfl, hm, hb⟩
  · intro w' s ev M z0 z1 z2 z3 z4 z5 hg hsum hp hst hev hb
    obtain rfl := Rep.rows_join (show a ≤ b + 1 by omega) (show b ≤ b' by omega) hw hf hn hdc hst hp
    rw [Rep.rows_sums hf hn] at hsum
    injection hsum with e1
    exact absurd e1.symm hev
theorem splitF_any (l : List Pst) (hw : WF l) (hf : Rep.FineP l) (hn : l.length ≤ 60) (j : Rpr) (d : Int) (h0 : 0 ≤ j.a) (h1 : j.a ≤ d) (h2 : d < j.b) (h4 : j.b ≤ 1000000) (W : World) (hj : LS Pst.cells 10 W j.v (Rep.rows j.a j.b l)) :
    Calls Try.prog 18 #[.agg (j.cells (Rep.colsOf l)).toArray, .int .i64 d] W fun e w' => ∃ r s : Rpr, r.a = j.a ∧ r.b = d ∧ s.a = d + 1 ∧ s.b = j.b ∧ e = .returned (.tuple #[.agg (r.cells (Rep.colsOf l)).toArray, .agg (s.cells (Rep.colsOf l)).toArray, .int .i64 0]) ∧ LS Pst.cells 10 w' r.v (Rep.rows r.a r.b l) ∧ LS Pst.cells 10 w' s.v (Rep.rows s.a s.b l) ∧ Below W.heap.size W w' := by
  obtain ⟨a, b, p, k, c⟩ := j
  dsimp only at h0 h1 h2 h4
  have hda : Rep.days a b = true := days_of.2 (by omega)
  have hdb : Rep.days a d = true := days_of.2 (by omega)
  have hdc : Rep.days (d + 1) b = true := days_of.2 (by omega)
  have hl1 := hj.length
  dsimp only at hl1
  have hq1 := Rep.rows_length a b l
  have hu : (Rep.rows a b l).filter (Rep.upTo d) = Rep.rows a d l := Rep.rows_up (by omega) hw hf hn hda hdb
  have hv : (Rep.rows a b l).filter (Rep.behind d) = Rep.rows (d + 1) b l := Rep.rows_be (by omega) hw hf hn hda hdc
  refine split_any a b (Rep.rows a b l) p k c _ _ _ _ _ _ _ d true ⟨fun _ => Rep.rows_may hf hn hda, fun _ => rfl⟩ (by omega) 0 _ _ _ _ _ _ _ 0 _ _ _ _ _ _ _ (by rw [hu]; exact Rep.rows_sums hf hn) (by rw [hv]; exact Rep.rows_sums hf hn) W (ps_of_ls hj (Rep.rows_wf hw)) _ ?_ ?_ ?_
  · intro w' h; exact absurd ⟨rfl, h1, h2⟩ h
  · intro w' _ h; exact absurd ⟨rfl, rfl⟩ h
  · intro w' v1 v2 _ _ _ l1 l2 hb
    obtain ⟨p1, c1, rfl⟩ := l1.shape
    obtain ⟨p2, c2, rfl⟩ := l2.shape
    refine ⟨⟨a, d, p1, _, c1⟩, ⟨d + 1, b, p2, _, c2⟩, rfl, rfl, rfl, rfl, rfl, ?_, ?_, hb⟩
    · rw [hu] at l1 ⊢
      exact l1
    · rw [hv] at l2 ⊢
      exact l2
theorem sameF_any (F : Rep.Cols) (r s : Rpr) (ha : r.a = s.a) (hb : r.b = s.b) (l : List Pst) (W : World) (hr : LS Pst.cells 10 W r.v l) (hs : LS Pst.cells 10 W s.v l) :
    Calls Try.prog 19 #[.agg (r.cells F).toArray, .agg (s.cells F).toArray] W fun e w' => e = .returned (.bool true) ∧ Below W.heap.size W w' := by
  obtain ⟨a, b, p, k, c⟩ := r
  obtain ⟨a', b', p', k', c'⟩ := s
  dsimp only at ha hb
  subst ha hb
  exact rSameR_any a b a b _ _ _ _ _ _ _ _ _ _ _ _ _ _ l l p p' k k' c c' true (by simp) W hr hs
end Go.Proofs.Ytajpggnmhkpbkaa
