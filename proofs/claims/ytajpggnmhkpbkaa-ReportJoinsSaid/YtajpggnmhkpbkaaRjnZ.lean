/- ReportJoins returns true for every two reports and day, and leaves the memory that was there as it was. -/
import Derived.Test.YtajpggnmhkpbkaaRjn50
import Derived.Test.YtajpggnmhkpbkaaRjn51
import Derived.Test.YtajpggnmhkpbkaaRjn37
import Derived.Test.YtajpggnmhkpbkaaRjn7

set_option linter.unusedVariables false
set_option linter.unusedSimpArgs false
namespace Go.Proofs.Ytajpggnmhkpbkaa.reportJoins
open Go.ChangeShapes Go.WideShapes Go.ChangeAt Go.RowKit
theorem box1 (w : World) (cs : List Value) (hc : cs.length = 10) : ((w.alloc (.cells #[.int .i64 0, .int .i64 0, .slice none 0 0, .int .i64 0, .int .i64 0, .int .i64 0, .int .i64 0, .int .i64 0, .int .i64 0, .int .i64 0] 43 (0, 0))).setCells w.heap.size 0 cs).heap[w.heap.size]? = some (.cells cs.toArray 43 (0, 0)) ∧ Below w.heap.size w ((w.alloc (.cells #[.int .i64 0, .int .i64 0, .slice none 0 0, .int .i64 0, .int .i64 0, .int .i64 0, .int .i64 0, .int .i64 0, .int .i64 0, .int .i64 0] 43 (0, 0))).setCells w.heap.size 0 cs) :=
  ⟨setCells_rowA (new_row w (.cells #[.int .i64 0, .int .i64 0, .slice none 0 0, .int .i64 0, .int .i64 0, .int .i64 0, .int .i64 0, .int .i64 0, .int .i64 0, .int .i64 0] 43 (0, 0)) _ rfl) (by rw [hc]; rfl), Only.below ((Below.refl w.heap.size w).alloc (Nat.le_refl _) (.cells #[.int .i64 0, .int .i64 0, .slice none 0 0, .int .i64 0, .int .i64 0, .int .i64 0, .int .i64 0, .int .i64 0, .int .i64 0, .int .i64 0] 43 (0, 0))) (Nat.le_refl _) ((Below.refl w.heap.size w).alloc (Nat.le_refl _) (.cells #[.int .i64 0, .int .i64 0, .slice none 0 0, .int .i64 0, .int .i64 0, .int .i64 0, .int .i64 0, .int .i64 0, .int .i64 0, .int .i64 0] 43 (0, 0))).size ((Only.refl _ _).setCells 0 _)⟩
theorem box2 (w : World) (cs ds : List Value) (hc : cs.length = 10) (hd : ds.length = 10) (W : World) (hW : W = (((w.alloc (.cells #[.int .i64 0, .int .i64 0, .slice none 0 0, .int .i64 0, .int .i64 0, .int .i64 0, .int .i64 0, .int .i64 0, .int .i64 0, .int .i64 0] 43 (0, 0))).alloc (.cells #[.int .i64 0, .int .i64 0, .slice none 0 0, .int .i64 0, .int .i64 0, .int .i64 0, .int .i64 0, .int .i64 0, .int .i64 0, .int .i64 0] 43 (0, 0))).setCells w.heap.size 0 cs).setCells (w.heap.size + 1) 0 ds) :
    W.heap[w.heap.size]? = some (.cells cs.toArray 43 (0, 0)) ∧ W.heap[w.heap.size + 1]? = some (.cells ds.toArray 43 (0, 0)) ∧ Below w.heap.size w W := by
  subst hW
  have h1 := row_alloc (new_row w (.cells #[.int .i64 0, .int .i64 0, .slice none 0 0, .int .i64 0, .int .i64 0, .int .i64 0, .int .i64 0, .int .i64 0, .int .i64 0, .int .i64 0] 43 (0, 0)) _ rfl) (.cells #[.int .i64 0, .int .i64 0, .slice none 0 0, .int .i64 0, .int .i64 0, .int .i64 0, .int .i64 0, .int .i64 0, .int .i64 0, .int .i64 0] 43 (0, 0))
  have h2 := new_row (w.alloc (.cells #[.int .i64 0, .int .i64 0, .slice none 0 0, .int .i64 0, .int .i64 0, .int .i64 0, .int .i64 0, .int .i64 0, .int .i64 0, .int .i64 0] 43 (0, 0))) (.cells #[.int .i64 0, .int .i64 0, .slice none 0 0, .int .i64 0, .int .i64 0, .int .i64 0, .int .i64 0, .int .i64 0, .int .i64 0, .int .i64 0] 43 (0, 0)) (w.heap.size + 1) (by simp)
  have b1 := ((Below.refl w.heap.size w).alloc (Nat.le_refl _) (.cells #[.int .i64 0, .int .i64 0, .slice none 0 0, .int .i64 0, .int .i64 0, .int .i64 0, .int .i64 0, .int .i64 0, .int .i64 0, .int .i64 0] 43 (0, 0))).alloc (by simp) (.cells #[.int .i64 0, .int .i64 0, .slice none 0 0, .int .i64 0, .int .i64 0, .int .i64 0, .int .i64 0, .int .i64 0, .int .i64 0, .int .i64 0] 43 (0, 0))
  have o1 : Only w.heap.size ((w.alloc (.cells #[.int .i64 0, .int .i64 0, .slice none 0 0, .int .i64 0, .int .i64 0, .int .i64 0, .int .i64 0, .int .i64 0, .int .i64 0, .int .i64 0] 43 (0, 0))).alloc (.cells #[.int .i64 0, .int .i64 0, .slice none 0 0, .int .i64 0, .int .i64 0, .int .i64 0, .int .i64 0, .int .i64 0, .int .i64 0, .int .i64 0] 43 (0, 0))) _ := (Only.refl _ _).setCells 0 cs
  have h1' := setCells_rowA (cs := cs) h1 (by rw [hc]; rfl)
  have h2' := (o1.block _ (block_lt h2) (by omega)).trans h2
  have b2 := Only.below b1 (Nat.le_refl _) b1.size o1
  have o2 : Only (w.heap.size + 1) (((w.alloc (.cells #[.int .i64 0, .int .i64 0, .slice none 0 0, .int .i64 0, .int .i64 0, .int .i64 0, .int .i64 0, .int .i64 0, .int .i64 0, .int .i64 0] 43 (0, 0))).alloc (.cells #[.int .i64 0, .int .i64 0, .slice none 0 0, .int .i64 0, .int .i64 0, .int .i64 0, .int .i64 0, .int .i64 0, .int .i64 0, .int .i64 0] 43 (0, 0))).setCells w.heap.size 0 cs) _ := (Only.refl _ _).setCells 0 ds
  exact ⟨(o2.block _ (block_lt h1') (by omega)).trans h1', setCells_rowA h2' (by rw [hd]; rfl), Only.below b2 (by omega) b2.size o2⟩
attribute [local go_sem ↓] rp_execLoad rp_execStore

attribute [local go_sem] rp_load rp_store loL_drew okL_drew there_sc

set_option maxRecDepth 8000 in
set_option maxHeartbeats 8000000 in
theorem walk (a b : Int) (la : List Pst) (pa : Option Addr) (na ca : Nat) (m x0 x1 x2 x3 x4 x5 a' b' : Int) (lb : List Pst) (pb : Option Addr) (nb cb : Nat) (m' y0 y1 y2 y3 y4 y5 day : Int) (w : World) (hsa : PS w (.slice pa na ca) la) (hsb : PS w (.slice pb nb cb) lb) :
    Calls Try.prog 5 #[.agg #[.int .i64 a, .int .i64 b, .slice pa na ca, .int .i64 m, .int .i64 x0, .int .i64 x1, .int .i64 x2, .int .i64 x3, .int .i64 x4, .int .i64 x5], .agg #[.int .i64 a', .int .i64 b', .slice pb nb cb, .int .i64 m', .int .i64 y0, .int .i64 y1, .int .i64 y2, .int .i64 y3, .int .i64 y4, .int .i64 y5], .int .i64 day] w fun e w' => e = .returned (.bool true) ∧ Below w.heap.size w w' := by
  have hla := ps_len hsa
  have hlb := ps_len hsb
  have HNA := Lib.hid hla.1; have HNB := Lib.hid hlb.1
  have hb0 := ((Below.refl w.heap.size w).alloc (Nat.le_refl _) (.cells #[.int .i64 a, .int .i64 b, .slice pa na ca, .int .i64 m, .int .i64 x0, .int .i64 x1, .int .i64 x2, .int .i64 x3, .int .i64 x4, .int .i64 x5] 43 (0, 0))).alloc (by simp) (.cells #[.int .i64 a', .int .i64 b', .slice pb nb cb, .int .i64 m', .int .i64 y0, .int .i64 y1, .int .i64 y2, .int .i64 y3, .int .i64 y4, .int .i64 y5] 43 (0, 0))
  have hr0 := row_alloc (new_row w (.cells #[.int .i64 a, .int .i64 b, .slice pa na ca, .int .i64 m, .int .i64 x0, .int .i64 x1, .int .i64 x2, .int .i64 x3, .int .i64 x4, .int .i64 x5] 43 (0, 0)) _ rfl) (.cells #[.int .i64 a', .int .i64 b', .slice pb nb cb, .int .i64 m', .int .i64 y0, .int .i64 y1, .int .i64 y2, .int .i64 y3, .int .i64 y4, .int .i64 y5] 43 (0, 0))
  have hr1 := new_row (w.alloc (.cells #[.int .i64 a, .int .i64 b, .slice pa na ca, .int .i64 m, .int .i64 x0, .int .i64 x1, .int .i64 x2, .int .i64 x3, .int .i64 x4, .int .i64 x5] 43 (0, 0))) (.cells #[.int .i64 a', .int .i64 b', .slice pb nb cb, .int .i64 m', .int .i64 y0, .int .i64 y1, .int .i64 y2, .int .i64 y3, .int .i64 y4, .int .i64 y5] 43 (0, 0)) (w.heap.size + 1) (by simp)
  have HSA := Lib.hid (hsa.below hb0); have HSB := Lib.hid (hsb.below hb0)
  have HB0 := Lib.hid hb0; have HA := Lib.hid hr0; have HB := Lib.hid hr1
  have hc0 := fun j => cell_of_row _ w.heap.size j _ _ _ hr0
  have hc1 := fun j => cell_of_row _ (w.heap.size + 1) j _ _ _ hr1
  have hna : na ≤ 9223372036854775807 := by omega
  have hnb : nb ≤ 9223372036854775807 := by omega
  clear hsa hsb hla hlb hb0 hr0 hr1
  by_cases h1 : 40 < na
  · clear HSA HSB HA HB
    go_enter Try.func5, Try.ntmps5
    go_wp2_with fail
    refine (known17_any _).mono ?_
    rintro e w1 ⟨rfl, hb1⟩
    have HB1 := Lib.hid (HB0.out.trans (hb1.mono HB0.out.size))
    clear hb1 hc0 hc1 HB0
    go_wp2
    go_ret
    exact ⟨rfl, HB1.out⟩
  by_cases h2 : 40 < nb
  · clear HSA HSB HA HB
    go_enter Try.func5, Try.ntmps5
    go_wp2_with fail
    refine (known17_any _).mono ?_
    rintro e w1 ⟨rfl, hb1⟩
    have HB1 := Lib.hid (HB0.out.trans (hb1.mono HB0.out.size))
    clear hb1 hc0 hc1 HB0
    go_wp2
    go_ret
    exact ⟨rfl, HB1.out⟩
  obtain ⟨ba, hba⟩ : ∃ ba : Bool, ba = true ↔ Rep.MayP a b la m [x0, x1, x2, x3, x4, x5] := ⟨by classical exact decide (Rep.MayP a b la m [x0, x1, x2, x3, x4, x5]), by simp⟩
  obtain ⟨bb, hbb⟩ : ∃ bb : Bool, bb = true ↔ Rep.MayP a' b' lb m' [y0, y1, y2, y3, y4, y5] := ⟨by classical exact decide (Rep.MayP a' b' lb m' [y0, y1, y2, y3, y4, y5]), by simp⟩
  have HJ := Lib.hid (fun W h h' => join_two a b la pa na ca m x0 x1 x2 x3 x4 x5 a' b' lb pb nb cb m' y0 y1 y2 y3 y4 y5 ba bb hba hbb (by omega) (by omega) W h h')
  obtain ⟨f1, t1, M1, g0, g1, g2, g3, g4, g5, f2, t2, M2, h0, h1', h2', h3, h4, h5, EE, s1, s2, hS1, hS2⟩ := split_two a b la pa na ca m x0 x1 x2 x3 x4 x5 day ba hba (by omega)
  have HS1 := Lib.hid hS1; have HS2 := Lib.hid hS2
  obtain ⟨bv, hbv⟩ : ∃ bv : Bool, bv = true ↔ (a = a' ∧ b = b' ∧ (m = m' ∧ x0 = y0 ∧ x1 = y1 ∧ x2 = y2 ∧ x3 = y3 ∧ x4 = y4 ∧ x5 = y5) ∧ la = lb) := ⟨by classical exact decide (a = a' ∧ b = b' ∧ (m = m' ∧ x0 = y0 ∧ x1 = y1 ∧ x2 = y2 ∧ x3 = y3 ∧ x4 = y4 ∧ x5 = y5) ∧ la = lb), by simp⟩
  have HBV := Lib.hid hbv
  clear hba hbb hS1 hS2 hbv
  have ha0 := row_loJ (cs := [.int .i64 a, .int .i64 b, .slice pa na ca, .int .i64 m, .int .i64 x0, .int .i64 x1, .int .i64 x2, .int .i64 x3, .int .i64 x4, .int .i64 x5]) HA.out rfl
  have hb0 := row_loJ (cs := [.int .i64 a', .int .i64 b', .slice pb nb cb, .int .i64 m', .int .i64 y0, .int .i64 y1, .int .i64 y2, .int .i64 y3, .int .i64 y4, .int .i64 y5]) HB.out rfl
  obtain ⟨ha1, ha2⟩ := ha0; obtain ⟨hb1, hb2⟩ := hb0
  go_enter Try.func5, Try.ntmps5
  go_wp2_with fail
  clear hc0 hc1 ha1 ha2 hb1 hb2
  generalize (w.alloc (.cells #[.int .i64 a, .int .i64 b, .slice pa na ca, .int .i64 m, .int .i64 x0, .int .i64 x1, .int .i64 x2, .int .i64 x3, .int .i64 x4, .int .i64 x5] 43 (0, 0))).alloc (.cells #[.int .i64 a', .int .i64 b', .slice pb nb cb, .int .i64 m', .int .i64 y0, .int .i64 y1, .int .i64 y2, .int .i64 y3, .int .i64 y4, .int .i64 y5] 43 (0, 0)) = W0 at *
  refine (HJ.out _ HSA.out HSB.out).mono ?_
  rintro e w1 ⟨f, t, M, z0, z1, z2, z3, z4, z5, E, s, q1, k1, c1, rfl, hl, hbq, hRJ⟩
  unfold Rep.JV
  have HRJ := Lib.hid hRJ
  have HL := Lib.hid hl
  clear hRJ HJ hl

  have HSA := Lib.hid (HSA.out.below hbq); have HSB := Lib.hid (HSB.out.below hbq)
  have HB0 := Lib.hid (HB0.out.trans (hbq.mono HB0.out.size))
  have HA := Lib.hid ((hbq.block _ (block_lt HA.out)).trans HA.out); have HB := Lib.hid ((hbq.block _ (block_lt HB.out)).trans HB.out)
  clear hbq
  have th := there_row10 (new_row w1 (.cells #[.int .i64 0, .int .i64 0, .slice none 0 0, .int .i64 0, .int .i64 0, .int .i64 0, .int .i64 0, .int .i64 0, .int .i64 0, .int .i64 0] 43 (0, 0)) _ rfl) rfl
  have e1n : ([.int .i64 f, .int .i64 t, .slice q1 k1 c1, .int .i64 M, .int .i64 z0, .int .i64 z1, .int .i64 z2, .int .i64 z3, .int .i64 z4, .int .i64 z5] : List Value).length = 10 := rfl
  have e1c : ([.int .i64 f, .int .i64 t, .slice q1 k1 c1, .int .i64 M, .int .i64 z0, .int .i64 z1, .int .i64 z2, .int .i64 z3, .int .i64 z4, .int .i64 z5] : List Value).all (·.oneCell') = true := rfl
  obtain ⟨hx0, hbq⟩ := box1 w1 [.int .i64 f, .int .i64 t, .slice q1 k1 c1, .int .i64 M, .int .i64 z0, .int .i64 z1, .int .i64 z2, .int .i64 z3, .int .i64 z4, .int .i64 z5] rfl
  have HX := Lib.hid hx0; have HBQ := Lib.hid hbq
  obtain ⟨ha1, ha2⟩ := row_loJ (cs := [.int .i64 a, .int .i64 b, .slice pa na ca, .int .i64 m, .int .i64 x0, .int .i64 x1, .int .i64 x2, .int .i64 x3, .int .i64 x4, .int .i64 x5]) ((hbq.block _ (block_lt HA.out)).trans HA.out) rfl
  obtain ⟨hb1, hb2⟩ := row_loJ (cs := [.int .i64 a', .int .i64 b', .slice pb nb cb, .int .i64 m', .int .i64 y0, .int .i64 y1, .int .i64 y2, .int .i64 y3, .int .i64 y4, .int .i64 y5]) ((hbq.block _ (block_lt HB.out)).trans HB.out) rfl
  clear hx0 hbq
  go_wp2_with fail
  clear th e1n e1c ha1 ha2 hb1 hb2
  generalize ((w1.alloc (.cells #[.int .i64 0, .int .i64 0, .slice none 0 0, .int .i64 0, .int .i64 0, .int .i64 0, .int .i64 0, .int .i64 0, .int .i64 0, .int .i64 0] 43 (0, 0))).setCells w1.heap.size 0 [.int .i64 f, .int .i64 t, .slice q1 k1 c1, .int .i64 M, .int .i64 z0, .int .i64 z1, .int .i64 z2, .int .i64 z3, .int .i64 z4, .int .i64 z5]) = W1 at *
  have HW1 : Hid (W1.heap[w1.heap.size]? = some (.cells #[.int .i64 f, .int .i64 t, .slice q1 k1 c1, .int .i64 M, .int .i64 z0, .int .i64 z1, .int .i64 z2, .int .i64 z3, .int .i64 z4, .int .i64 z5] 43 (0, 0))) := HX
  have HB0 := Lib.hid (HB0.out.trans (HBQ.out.mono HB0.out.size))
  have HA := Lib.hid ((HBQ.out.block _ (block_lt HA.out)).trans HA.out); have HB := Lib.hid ((HBQ.out.block _ (block_lt HB.out)).trans HB.out)
  have HSA := Lib.hid (HSA.out.below HBQ.out); have HSB := Lib.hid (HSB.out.below HBQ.out)
  have HL := Lib.hid (HL.out.below HBQ.out)
  clear HBQ HX
  generalize w1.heap.size = gx at *
  refine (HRJ.out _ HSA.out HSB.out).mono ?_
  rintro e w2 ⟨q2, k2, c2, rfl, hl, hbq⟩
  unfold Rep.JV
  have HL2 := Lib.hid hl; have HBQ := Lib.hid hbq
  clear hl hbq HRJ
  have HW1 := Lib.hid ((HBQ.out.block _ (block_lt HW1.out)).trans HW1.out); have HL := Lib.hid (HL.out.below HBQ.out)
  have HB0 := Lib.hid (HB0.out.trans (HBQ.out.mono HB0.out.size))
  have HA := Lib.hid ((HBQ.out.block _ (block_lt HA.out)).trans HA.out); have HB := Lib.hid ((HBQ.out.block _ (block_lt HB.out)).trans HB.out)
  have HSA := Lib.hid (HSA.out.below HBQ.out); have HSB := Lib.hid (HSB.out.below HBQ.out)
  clear HBQ
  have th := there_row10 (new_row w2 (.cells #[.int .i64 0, .int .i64 0, .slice none 0 0, .int .i64 0, .int .i64 0, .int .i64 0, .int .i64 0, .int .i64 0, .int .i64 0, .int .i64 0] 43 (0, 0)) _ rfl) rfl
  have e1n : ([.int .i64 f, .int .i64 t, .slice q2 k2 c2, .int .i64 M, .int .i64 z0, .int .i64 z1, .int .i64 z2, .int .i64 z3, .int .i64 z4, .int .i64 z5] : List Value).length = 10 := rfl
  have e1c : ([.int .i64 f, .int .i64 t, .slice q2 k2 c2, .int .i64 M, .int .i64 z0, .int .i64 z1, .int .i64 z2, .int .i64 z3, .int .i64 z4, .int .i64 z5] : List Value).all (·.oneCell') = true := rfl
  obtain ⟨hx0, hbq⟩ := box1 w2 [.int .i64 f, .int .i64 t, .slice q2 k2 c2, .int .i64 M, .int .i64 z0, .int .i64 z1, .int .i64 z2, .int .i64 z3, .int .i64 z4, .int .i64 z5] rfl
  have HW2 := Lib.hid hx0; have HBQ := Lib.hid hbq
  obtain ⟨ha1, ha2⟩ := row_loJ (cs := [.int .i64 f, .int .i64 t, .slice q1 k1 c1, .int .i64 M, .int .i64 z0, .int .i64 z1, .int .i64 z2, .int .i64 z3, .int .i64 z4, .int .i64 z5]) ((hbq.block _ (block_lt HW1.out)).trans HW1.out) rfl
  obtain ⟨hb1, hb2⟩ := row_loJ (cs := [.int .i64 f, .int .i64 t, .slice q2 k2 c2, .int .i64 M, .int .i64 z0, .int .i64 z1, .int .i64 z2, .int .i64 z3, .int .i64 z4, .int .i64 z5]) hx0 rfl
  clear hx0 hbq
  go_wp2_with fail
  clear th e1n e1c ha1 ha2 hb1 hb2
  generalize ((w2.alloc (.cells #[.int .i64 0, .int .i64 0, .slice none 0 0, .int .i64 0, .int .i64 0, .int .i64 0, .int .i64 0, .int .i64 0, .int .i64 0, .int .i64 0] 43 (0, 0))).setCells w2.heap.size 0 [.int .i64 f, .int .i64 t, .slice q2 k2 c2, .int .i64 M, .int .i64 z0, .int .i64 z1, .int .i64 z2, .int .i64 z3, .int .i64 z4, .int .i64 z5]) = W2 at *
  have HW1 := Lib.hid ((HBQ.out.block _ (block_lt HW1.out)).trans HW1.out); have HL := Lib.hid (HL.out.below HBQ.out); have HL2 := Lib.hid (HL2.out.below HBQ.out)
  have HB0 := Lib.hid (HB0.out.trans (HBQ.out.mono HB0.out.size))
  have HA := Lib.hid ((HBQ.out.block _ (block_lt HA.out)).trans HA.out); have HB := Lib.hid ((HBQ.out.block _ (block_lt HB.out)).trans HB.out)
  have HSA := Lib.hid (HSA.out.below HBQ.out); have HSB := Lib.hid (HSB.out.below HBQ.out)
  clear HBQ HW1 HW2
  generalize w2.heap.size = gw at *
  have hq1 := HL.out.length; have hq2 := HL2.out.length
  refine (rSameR_any f t f t M z0 z1 z2 z3 z4 z5 M z0 z1 z2 z3 z4 z5 s s q1 q2 k1 k2 c1 c2 true (by simp) _ HL.out HL2.out).mono ?_
  rintro e w3 ⟨rfl, hbq⟩
  have HBQ := Lib.hid hbq
  clear hbq HL HL2 hq1 hq2
  have HB0 := Lib.hid (HB0.out.trans (HBQ.out.mono HB0.out.size))
  have HA := Lib.hid ((HBQ.out.block _ (block_lt HA.out)).trans HA.out); have HB := Lib.hid ((HBQ.out.block _ (block_lt HB.out)).trans HB.out)
  have HSA := Lib.hid (HSA.out.below HBQ.out); have HSB := Lib.hid (HSB.out.below HBQ.out)
  clear HBQ
  obtain ⟨ha1, ha2⟩ := row_loJ (cs := [.int .i64 a, .int .i64 b, .slice pa na ca, .int .i64 m, .int .i64 x0, .int .i64 x1, .int .i64 x2, .int .i64 x3, .int .i64 x4, .int .i64 x5]) HA.out rfl
  go_wp2_with fail
  clear ha1 ha2
  refine (HS1.out _ HSA.out).mono ?_
  rintro e w4 ⟨q3, k3, c3, q4, k4, c4, rfl, hl3, hl4, hbq⟩
  unfold Rep.SV
  have HL3 := Lib.hid hl3; have HL4 := Lib.hid hl4; have HBQ := Lib.hid hbq
  clear hl3 hl4 hbq HS1
  have HB0 := Lib.hid (HB0.out.trans (HBQ.out.mono HB0.out.size))
  have HA := Lib.hid ((HBQ.out.block _ (block_lt HA.out)).trans HA.out); have HB := Lib.hid ((HBQ.out.block _ (block_lt HB.out)).trans HB.out)
  have HSA := Lib.hid (HSA.out.below HBQ.out); have HSB := Lib.hid (HSB.out.below HBQ.out)
  clear HBQ
  have th := there_row10 (row_alloc (new_row w4 (.cells #[.int .i64 0, .int .i64 0, .slice none 0 0, .int .i64 0, .int .i64 0, .int .i64 0, .int .i64 0, .int .i64 0, .int .i64 0, .int .i64 0] 43 (0, 0)) _ rfl) (.cells #[.int .i64 0, .int .i64 0, .slice none 0 0, .int .i64 0, .int .i64 0, .int .i64 0, .int .i64 0, .int .i64 0, .int .i64 0, .int .i64 0] 43 (0, 0))) rfl
  have th2 := there_row10 (new_row (w4.alloc (.cells #[.int .i64 0, .int .i64 0, .slice none 0 0, .int .i64 0, .int .i64 0, .int .i64 0, .int .i64 0, .int .i64 0, .int .i64 0, .int .i64 0] 43 (0, 0))) (.cells #[.int .i64 0, .int .i64 0, .slice none 0 0, .int .i64 0, .int .i64 0, .int .i64 0, .int .i64 0, .int .i64 0, .int .i64 0, .int .i64 0] 43 (0, 0)) (w4.heap.size + 1) (by simp)) rfl
  have e1n : ([.int .i64 f1, .int .i64 t1, .slice q3 k3 c3, .int .i64 M1, .int .i64 g0, .int .i64 g1, .int .i64 g2, .int .i64 g3, .int .i64 g4, .int .i64 g5] : List Value).length = 10 := rfl
  have e1c : ([.int .i64 f1, .int .i64 t1, .slice q3 k3 c3, .int .i64 M1, .int .i64 g0, .int .i64 g1, .int .i64 g2, .int .i64 g3, .int .i64 g4, .int .i64 g5] : List Value).all (·.oneCell') = true := rfl
  have e2n : ([.int .i64 f2, .int .i64 t2, .slice q4 k4 c4, .int .i64 M2, .int .i64 h0, .int .i64 h1', .int .i64 h2', .int .i64 h3, .int .i64 h4, .int .i64 h5] : List Value).length = 10 := rfl
  have e2c : ([.int .i64 f2, .int .i64 t2, .slice q4 k4 c4, .int .i64 M2, .int .i64 h0, .int .i64 h1', .int .i64 h2', .int .i64 h3, .int .i64 h4, .int .i64 h5] : List Value).all (·.oneCell') = true := rfl
  obtain ⟨hx0, hx1, hbq⟩ := box2 w4 [.int .i64 f1, .int .i64 t1, .slice q3 k3 c3, .int .i64 M1, .int .i64 g0, .int .i64 g1, .int .i64 g2, .int .i64 g3, .int .i64 g4, .int .i64 g5] [.int .i64 f2, .int .i64 t2, .slice q4 k4 c4, .int .i64 M2, .int .i64 h0, .int .i64 h1', .int .i64 h2', .int .i64 h3, .int .i64 h4, .int .i64 h5] rfl rfl _ rfl
  have HW3 := Lib.hid hx0; have HW4 := Lib.hid hx1; have HBQ := Lib.hid hbq
  obtain ⟨ha1, ha2⟩ := row_loJ (cs := [.int .i64 a, .int .i64 b, .slice pa na ca, .int .i64 m, .int .i64 x0, .int .i64 x1, .int .i64 x2, .int .i64 x3, .int .i64 x4, .int .i64 x5]) ((hbq.block _ (block_lt HA.out)).trans HA.out) rfl
  clear hx0 hx1 hbq
  go_wp2_with fail
  clear th th2 e1n e1c e2n e2c ha1 ha2
  generalize (((w4.alloc (.cells #[.int .i64 0, .int .i64 0, .slice none 0 0, .int .i64 0, .int .i64 0, .int .i64 0, .int .i64 0, .int .i64 0, .int .i64 0, .int .i64 0] 43 (0, 0))).alloc (.cells #[.int .i64 0, .int .i64 0, .slice none 0 0, .int .i64 0, .int .i64 0, .int .i64 0, .int .i64 0, .int .i64 0, .int .i64 0, .int .i64 0] 43 (0, 0))).setCells w4.heap.size 0 [.int .i64 f1, .int .i64 t1, .slice q3 k3 c3, .int .i64 M1, .int .i64 g0, .int .i64 g1, .int .i64 g2, .int .i64 g3, .int .i64 g4, .int .i64 g5]).setCells (w4.heap.size + 1) 0 [.int .i64 f2, .int .i64 t2, .slice q4 k4 c4, .int .i64 M2, .int .i64 h0, .int .i64 h1', .int .i64 h2', .int .i64 h3, .int .i64 h4, .int .i64 h5] = W4 at *
  have HL3 := Lib.hid (HL3.out.below HBQ.out); have HL4 := Lib.hid (HL4.out.below HBQ.out)
  have HB0 := Lib.hid (HB0.out.trans (HBQ.out.mono HB0.out.size))
  have HA := Lib.hid ((HBQ.out.block _ (block_lt HA.out)).trans HA.out); have HB := Lib.hid ((HBQ.out.block _ (block_lt HB.out)).trans HB.out)
  have HSA := Lib.hid (HSA.out.below HBQ.out); have HSB := Lib.hid (HSB.out.below HBQ.out)
  clear HBQ
  generalize w4.heap.size = gp at *
  refine (HS2.out _ HSA.out).mono ?_
  rintro e w5 ⟨q5, k5, c5, q6, k6, c6, rfl, hl5, hl6, hbq⟩
  unfold Rep.SV
  have HL5 := Lib.hid hl5; have HL6 := Lib.hid hl6; have HBQ := Lib.hid hbq
  clear hl5 hl6 hbq HS2
  have HW3 := Lib.hid ((HBQ.out.block _ (block_lt HW3.out)).trans HW3.out); have HW4 := Lib.hid ((HBQ.out.block _ (block_lt HW4.out)).trans HW4.out)
  have HL3 := Lib.hid (HL3.out.below HBQ.out); have HL4 := Lib.hid (HL4.out.below HBQ.out)
  have HB0 := Lib.hid (HB0.out.trans (HBQ.out.mono HB0.out.size))
  have HA := Lib.hid ((HBQ.out.block _ (block_lt HA.out)).trans HA.out); have HB := Lib.hid ((HBQ.out.block _ (block_lt HB.out)).trans HB.out)
  have HSA := Lib.hid (HSA.out.below HBQ.out); have HSB := Lib.hid (HSB.out.below HBQ.out)
  clear HBQ
  have th := there_row10 (row_alloc (new_row w5 (.cells #[.int .i64 0, .int .i64 0, .slice none 0 0, .int .i64 0, .int .i64 0, .int .i64 0, .int .i64 0, .int .i64 0, .int .i64 0, .int .i64 0] 43 (0, 0)) _ rfl) (.cells #[.int .i64 0, .int .i64 0, .slice none 0 0, .int .i64 0, .int .i64 0, .int .i64 0, .int .i64 0, .int .i64 0, .int .i64 0, .int .i64 0] 43 (0, 0))) rfl
  have th2 := there_row10 (new_row (w5.alloc (.cells #[.int .i64 0, .int .i64 0, .slice none 0 0, .int .i64 0, .int .i64 0, .int .i64 0, .int .i64 0, .int .i64 0, .int .i64 0, .int .i64 0] 43 (0, 0))) (.cells #[.int .i64 0, .int .i64 0, .slice none 0 0, .int .i64 0, .int .i64 0, .int .i64 0, .int .i64 0, .int .i64 0, .int .i64 0, .int .i64 0] 43 (0, 0)) (w5.heap.size + 1) (by simp)) rfl
  have e1n : ([.int .i64 f1, .int .i64 t1, .slice q5 k5 c5, .int .i64 M1, .int .i64 g0, .int .i64 g1, .int .i64 g2, .int .i64 g3, .int .i64 g4, .int .i64 g5] : List Value).length = 10 := rfl
  have e1c : ([.int .i64 f1, .int .i64 t1, .slice q5 k5 c5, .int .i64 M1, .int .i64 g0, .int .i64 g1, .int .i64 g2, .int .i64 g3, .int .i64 g4, .int .i64 g5] : List Value).all (·.oneCell') = true := rfl
  have e2n : ([.int .i64 f2, .int .i64 t2, .slice q6 k6 c6, .int .i64 M2, .int .i64 h0, .int .i64 h1', .int .i64 h2', .int .i64 h3, .int .i64 h4, .int .i64 h5] : List Value).length = 10 := rfl
  have e2c : ([.int .i64 f2, .int .i64 t2, .slice q6 k6 c6, .int .i64 M2, .int .i64 h0, .int .i64 h1', .int .i64 h2', .int .i64 h3, .int .i64 h4, .int .i64 h5] : List Value).all (·.oneCell') = true := rfl
  obtain ⟨hx0, hx1, hbq⟩ := box2 w5 [.int .i64 f1, .int .i64 t1, .slice q5 k5 c5, .int .i64 M1, .int .i64 g0, .int .i64 g1, .int .i64 g2, .int .i64 g3, .int .i64 g4, .int .i64 g5] [.int .i64 f2, .int .i64 t2, .slice q6 k6 c6, .int .i64 M2, .int .i64 h0, .int .i64 h1', .int .i64 h2', .int .i64 h3, .int .i64 h4, .int .i64 h5] rfl rfl _ rfl
  have HW5 := Lib.hid hx0; have HW6 := Lib.hid hx1; have HBQ := Lib.hid hbq
  clear hx0 hx1 hbq
  go_upto_region 9 with fail
  clear th th2 e1n e1c e2n e2c
  generalize (((w5.alloc (.cells #[.int .i64 0, .int .i64 0, .slice none 0 0, .int .i64 0, .int .i64 0, .int .i64 0, .int .i64 0, .int .i64 0, .int .i64 0, .int .i64 0] 43 (0, 0))).alloc (.cells #[.int .i64 0, .int .i64 0, .slice none 0 0, .int .i64 0, .int .i64 0, .int .i64 0, .int .i64 0, .int .i64 0, .int .i64 0, .int .i64 0] 43 (0, 0))).setCells w5.heap.size 0 [.int .i64 f1, .int .i64 t1, .slice q5 k5 c5, .int .i64 M1, .int .i64 g0, .int .i64 g1, .int .i64 g2, .int .i64 g3, .int .i64 g4, .int .i64 g5]).setCells (w5.heap.size + 1) 0 [.int .i64 f2, .int .i64 t2, .slice q6 k6 c6, .int .i64 M2, .int .i64 h0, .int .i64 h1', .int .i64 h2', .int .i64 h3, .int .i64 h4, .int .i64 h5] = W5 at *
  have HW3 := Lib.hid ((HBQ.out.block _ (block_lt HW3.out)).trans HW3.out); have HW4 := Lib.hid ((HBQ.out.block _ (block_lt HW4.out)).trans HW4.out)
  have HL3 := Lib.hid (HL3.out.below HBQ.out); have HL4 := Lib.hid (HL4.out.below HBQ.out); have HL5 := Lib.hid (HL5.out.below HBQ.out); have HL6 := Lib.hid (HL6.out.below HBQ.out)
  have HB0 := Lib.hid (HB0.out.trans (HBQ.out.mono HB0.out.size))
  have HA := Lib.hid ((HBQ.out.block _ (block_lt HA.out)).trans HA.out); have HB := Lib.hid ((HBQ.out.block _ (block_lt HB.out)).trans HB.out)
  have HSA := Lib.hid (HSA.out.below HBQ.out); have HSB := Lib.hid (HSB.out.below HBQ.out)
  clear HBQ
  generalize w5.heap.size = gu at *
  have ra := fun (u : Later W5) => row_loJ (cs := [.int .i64 a, .int .i64 b, .slice pa na ca, .int .i64 m, .int .i64 x0, .int .i64 x1, .int .i64 x2, .int .i64 x3, .int .i64 x4, .int .i64 x5]) ((u.prop.block _ (block_lt HA.out)).trans HA.out) rfl
  have rb := fun (u : Later W5) => row_loJ (cs := [.int .i64 a', .int .i64 b', .slice pb nb cb, .int .i64 m', .int .i64 y0, .int .i64 y1, .int .i64 y2, .int .i64 y3, .int .i64 y4, .int .i64 y5]) ((u.prop.block _ (block_lt HB.out)).trans HB.out) rfl
  have rp := fun (u : Later W5) => row_loJ (cs := [.int .i64 f1, .int .i64 t1, .slice q3 k3 c3, .int .i64 M1, .int .i64 g0, .int .i64 g1, .int .i64 g2, .int .i64 g3, .int .i64 g4, .int .i64 g5]) ((u.prop.block _ (block_lt HW3.out)).trans HW3.out) rfl
  have rq := fun (u : Later W5) => row_loJ (cs := [.int .i64 f2, .int .i64 t2, .slice q4 k4 c4, .int .i64 M2, .int .i64 h0, .int .i64 h1', .int .i64 h2', .int .i64 h3, .int .i64 h4, .int .i64 h5]) ((u.prop.block _ (block_lt HW4.out)).trans HW4.out) rfl
  have ru := fun (u : Later W5) => row_loJ (cs := [.int .i64 f1, .int .i64 t1, .slice q5 k5 c5, .int .i64 M1, .int .i64 g0, .int .i64 g1, .int .i64 g2, .int .i64 g3, .int .i64 g4, .int .i64 g5]) ((u.prop.block _ (block_lt HW5.out)).trans HW5.out) rfl
  have rv := fun (u : Later W5) => row_loJ (cs := [.int .i64 f2, .int .i64 t2, .slice q6 k6 c6, .int .i64 M2, .int .i64 h0, .int .i64 h1', .int .i64 h2', .int .i64 h3, .int .i64 h4, .int .i64 h5]) ((u.prop.block _ (block_lt HW6.out)).trans HW6.out) rfl
  have HLA := Lib.hid (ls_of_ps HSA.out).1; have HLB := Lib.hid (ls_of_ps HSB.out).1
  have HC1 := Lib.hid (fun (u : Later W5) => rSameR_any f1 t1 f1 t1 M1 g0 g1 g2 g3 g4 g5 M1 g0 g1 g2 g3 g4 g5 s1 s1 q3 q5 k3 k5 c3 c5 true (by simp) u.val (HL3.out.below u.prop) (HL5.out.below u.prop))
  have HC2 := Lib.hid (fun (u : Later W5) => rSameR_any f2 t2 f2 t2 M2 h0 h1' h2' h3 h4 h5 M2 h0 h1' h2' h3 h4 h5 s2 s2 q4 q6 k4 k6 c4 c6 true (by simp) u.val (HL4.out.below u.prop) (HL6.out.below u.prop))
  have HC3 := Lib.hid (fun (u : Later W5) => pSameR_any a b a' b' m x0 x1 x2 x3 x4 x5 m' y0 y1 y2 y3 y4 y5 la lb pa pb na nb ca cb bv HBV.out u.val (HLA.out.below u.prop) (HLB.out.below u.prop))
  have HC4 := Lib.hid (fun (u : Later W5) => rSameR_any a b a' b' m x0 x1 x2 x3 x4 x5 m' y0 y1 y2 y3 y4 y5 la lb pa pb na nb ca cb bv HBV.out u.val (HLA.out.below u.prop) (HLB.out.below u.prop))
  have HC5 := Lib.hid (fun (u : Later W5) => pSameR_any a b a b m x0 x1 x2 x3 x4 x5 m x0 x1 x2 x3 x4 x5 la la pa pa na na ca ca true (by simp) u.val (HLA.out.below u.prop) (HLA.out.below u.prop))
  clear HSA HSB HA HB HW3 HW4 HW5 HW6 HL3 HL4 HL5 HL6 HLA HLB HBV
  have ra1 := fun u => (ra u).1; have ra2 := fun u => (ra u).2; have rb1 := fun u => (rb u).1; have rb2 := fun u => (rb u).2
  have rp1 := fun u => (rp u).1; have rp2 := fun u => (rp u).2; have rq1 := fun u => (rq u).1; have rq2 := fun u => (rq u).2
  have ru1 := fun u => (ru u).1; have ru2 := fun u => (ru u).2; have rv1 := fun u => (rv u).1; have rv2 := fun u => (rv u).2
  clear ra rb rp rq ru rv
  refine wp_region_later (by kernel_rfl) (by kernel_rfl) ?_
  repeat (go_big_quiet_step (first | (go_at_call 19; first | with_reducible exact later_call (HC1.out _) | with_reducible exact later_call (HC2.out _) | with_reducible exact later_call (HC4.out _)) | (go_at_call 22; first | with_reducible exact later_call (HC3.out _) | with_reducible exact later_call (HC5.out _)) | (go_at_call 15; exact later_call (known17_any _))))
  refine wpQuiet_nil ?_
  rintro w6 ⟨u, rfl⟩
  have HF := Lib.hid (HB0.out.trans (u.prop.mono HB0.out.size))
  clear ra1 ra2 rb1 rb2 rp1 rp2 rq1 rq2 ru1 ru2 rv1 rv2
  generalize u.val = w6 at *
  go_wp2
  go_ret
  exact ⟨rfl, HF.out⟩
set_option maxRecDepth 100000 in
theorem lifted (os : Os) (started : os.Started) (H : Type) (enc : TypeId × Value → H) :
    ReturnsInHanded {} Try.checked os 5 .any (Rows.reportJoinsSpec.pre6 enc Try.prog Try.f5 Rows.reportJoinsRow.domain false) (Rows.reportJoinsSpec.post enc Try.prog Try.f5 false true false false) := by
  refine returnsInHanded_of_change (C := Try.checked) own started (by kernel_rfl) Try.func5
    (ChangeSpec.witness6 (enc := enc) (C := Try.checked) false ⟨#[], #[.agg #[.int .i64 0, .int .i64 0, .slice none 0 0, .int .i64 0, .int .i64 0, .int .i64 0, .int .i64 0, .int .i64 0, .int .i64 0, .int .i64 0], .agg #[.int .i64 0, .int .i64 0, .slice none 0 0, .int .i64 0, .int .i64 0, .int .i64 0, .int .i64 0, .int .i64 0, .int .i64 0, .int .i64 0], .int .i64 0], []⟩ 8 (by kernel_rfl) (by kernel_rfl) (by kernel_rfl) (by kernel_rfl)) ?_
  intro W base args ds gs before hval0 hW hcnd _
  have hval : ∀ (j : Nat) t v, Try.f5.params[j]? = some t → args[j]? = some v → Value.okWide Try.prog W .any base t v := hval0
  have hW' := hW
  obtain ⟨p, q, hA0, hV, rfl, hfz, hnd⟩ := hW
  have hA : DataW.TrodAll enc Try.prog W 0 (fun _ => true) true Try.f5.params.toList args.toList ds p := hA0
  rw [Try.params5] at hA hval
  obtain ⟨v0, vs0, d0, ds0, p0, q0, hargs, rfl, rfl, h0, r0⟩ := trodAll_cons hA
  obtain ⟨v1, vs1, d1, ds1, p1, q1, rfl, rfl, rfl, h1, r1⟩ := trodAll_cons r0
  obtain ⟨v2, vs2, d2, ds2, p2, q2, rfl, rfl, rfl, h2, r2⟩ := trodAll_cons r1
  obtain ⟨rfl, rfl, rfl⟩ := trodAll_nil r2
  obtain rfl : args = #[v0, v1, v2] := by cases args; simp_all
  obtain ⟨a, b, p, n, cap, l, m, x0, x1, x2, x3, x4, x5, rfl, hps⟩ := open_report (hval 0 _ v0 rfl rfl) h0
  obtain ⟨a', b', p', n', cap', l', m', y0, y1, y2, y3, y4, y5, rfl, hps'⟩ := open_report (hval 1 _ v1 rfl rfl) h1
  obtain ⟨day, rfl, rfl, rfl, wday⟩ := open_int Try.underlying3 (hval 2 3 v2 rfl rfl) h2
  clear hA0 hval0
  refine (walk a b l p n cap m x0 x1 x2 x3 x4 x5 a' b' l' p' n' cap' m' y0 y1 y2 y3 y4 y5 day W hps hps').mono fun e W' ⟨he, hg⟩ => ?_
  subst he
  exact ⟨_, rfl, post_law laidOut rfl hW' ⟨rfl, rfl, rfl⟩ (by kernel_rfl) hg Try.underlying4 rfl⟩

theorem proved : Rows.ReportJoinsSaid :=
  OpenClaim.holds_of_wide 5 Try.f5 rfl rfl rfl rfl rfl rfl rfl ⟨rfl, rfl, rfl, rfl, rfl⟩ rfl rfl rfl rfl rfl (by kernel_rfl) Try.func5 (by kernel_rfl)
    (of_decide_eq_true (by kernel_rfl)) (by unfold Func.isWrapper; first | (rw [if_pos (by decide +kernel)]; kernel_rfl) | (rw [if_neg (by decide +kernel)]; exact ⟨rfl, rfl⟩))
    (fun os started H enc _ => lifted os started H enc)
#print axioms proved
end Go.Proofs.Ytajpggnmhkpbkaa.reportJoins
