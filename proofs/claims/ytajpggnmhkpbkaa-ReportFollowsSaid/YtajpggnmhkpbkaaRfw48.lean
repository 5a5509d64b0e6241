/- Contract: the reference's Split. -/
import Derived.Test.YtajpggnmhkpbkaaRfw47
import Derived.Test.YtajpggnmhkpbkaaRfw37

set_option linter.unusedVariables false
set_option linter.unusedSimpArgs false
namespace Go.Proofs.Ytajpggnmhkpbkaa
open Go.RowKit
theorem Mine.only {α : Type} {enc : α → List Value} {n : Nat} {w w' : World} {base g : Nat} {v : Value} {l : List α} (h : Mine enc n w base v l) (hg : g < base) (hw : Only g w w') : Mine enc n w' base v l := by
  rcases h with ⟨rfl, rfl⟩ | ⟨k, cap, rfl, h1, h2, hc, hx, hr⟩
  · exact .inl ⟨rfl, rfl⟩
  · exact .inr ⟨k, cap, rfl, h1, Nat.lt_of_lt_of_le h2 hw.size, hc, hx, hr.block (hw.block k h2 (by omega))⟩
theorem Mine.one {α : Type} {enc : α → List Value} {n : Nat} {w : World} {base : Nat} {v : Value} {l : List α} (h : Mine enc n w base v l) : ∃ p n c, v = .slice p n c := by
  rcases h with ⟨rfl, rfl⟩ | ⟨k, cap, rfl, _⟩
  · exact ⟨_, _, _, rfl⟩
  · exact ⟨_, _, _, rfl⟩
/-- what the reference makes of the rows of some days, of rows that are in order -/
theorem rPart_any (f t : Int) (l : List Pst) (p : Option Addr) (n cap : Nat) (hnb : n ≤ 1000000) (hd : Rep.days f t = true) (hfine : Rep.FineP l) (hu : Srt.Up keyP l) (rows : List Pst) (hr : l.filter (Rep.within f t) = rows)
    (ev m x0 x1 x2 x3 x4 x5 : Int) (hsum : Post.sums rows = ⟨ev, m, [x0, x1, x2, x3, x4, x5]⟩) (w : World) (hs : PS w (.slice p n cap) l) :
    Calls Try.prog 52 #[.int .i64 f, .int .i64 t, .slice p n cap] w fun e w' => ∃ (q : Option Addr) (k c : Nat), e = .returned (.tuple #[.agg (Rep.cellsR ev f t m [x0, x1, x2, x3, x4, x5] (.slice q k c)).toArray, .int .i64 ev]) ∧ Mine Pst.cells 10 w' w.heap.size (.slice q k c) rows ∧ Below w.heap.size w w' := by
  subst hr
  refine (rMakeR_fit f t l p n cap hnb hd hfine _ (Srt.Mix.refl _) (Rep.Up.filter hu _) ev m x0 x1 x2 x3 x4 x5 hsum w hs).mono ?_
  rintro e w' ⟨v, hm, hb, h⟩
  obtain ⟨q, k, c, rfl⟩ := hm.one
  rcases h with ⟨he, rfl⟩ | ⟨he, rfl⟩
  · subst he
    exact ⟨q, k, c, rfl, hm, hb⟩
  · refine ⟨q, k, c, ?_, hm, hb⟩
    unfold Rep.cellsR
    rw [if_neg he]
theorem Rep.upTo_within {a b d : Int} {l : List Pst} (h : ∀ z ∈ l, Rep.within a b z = true) : l.filter (Rep.within a d) = l.filter (Rep.upTo d) := by
  refine List.filter_congr fun z hz => ?_
  have := h z hz
  unfold Rep.within at this ⊢
  unfold Rep.upTo
  simp at this
  simp [this.1]
theorem Rep.behind_within {a b d : Int} {l : List Pst} (h : ∀ z ∈ l, Rep.within a b z = true) : l.filter (Rep.within (d + 1) b) = l.filter (Rep.behind d) := by
  refine List.filter_congr fun z hz => ?_
  have := h z hz
  unfold Rep.within at this ⊢
  unfold Rep.behind
  simp at this
  simp [this.2]
  omega
attribute [local go_sem ↓] rp_execLoad rp_execStore

attribute [local go_sem] rp_load rp_store loL_drew okL_drew there_sc

set_option maxRecDepth 8000 in
set_option maxHeartbeats 8000000 in
theorem rsplit_any (a b : Int) (l : List Pst) (p : Option Addr) (n cap : Nat) (m x0 x1 x2 x3 x4 x5 day : Int) (ba : Bool) (hba : ba = true ↔ Rep.MayP a b l m [x0, x1, x2, x3, x4, x5]) (hnb : n ≤ 1000000) (er1 M1 z0 z1 z2 z3 z4 z5 er2 M2 u0 u1 u2 u3 u4 u5 : Int) (hs1 : Post.sums (l.filter (Rep.upTo day)) = ⟨er1, M1, [z0, z1, z2, z3, z4, z5]⟩) (hs2 : Post.sums (l.filter (Rep.behind day)) = ⟨er2, M2, [u0, u1, u2, u3, u4, u5]⟩) (w : World) (hs : PS w (.slice p n cap) l) :
    Rep.SplitR a b l ba day er1 M1 [z0, z1, z2, z3, z4, z5] er2 M2 [u0, u1, u2, u3, u4, u5] w (Calls Try.prog 21 #[.agg #[.int .i64 a, .int .i64 b, .slice p n cap, .int .i64 m, .int .i64 x0, .int .i64 x1, .int .i64 x2, .int .i64 x3, .int .i64 x4, .int .i64 x5], .int .i64 day] w) := by
  intro R hbad herr hok
  have HWR := Lib.hid hbad; have HER := Lib.hid herr; have HOK := Lib.hid hok
  have HM := Lib.hid (fun W h => rMay17_any a b l p n cap hnb m x0 x1 x2 x3 x4 x5 ba hba W h)
  have HMP := Lib.hid hba
  have HS := Lib.hid hs; have HS1 := Lib.hid hs1; have HS2 := Lib.hid hs2
  clear hbad herr hok hba hs hs1 hs2
  have hb1 := (((Below.refl w.heap.size w).alloc (Nat.le_refl _) (.cells #[.int .i64 a, .int .i64 b, .slice p n cap, .int .i64 m, .int .i64 x0, .int .i64 x1, .int .i64 x2, .int .i64 x3, .int .i64 x4, .int .i64 x5] 43 (0, 0))).alloc (by simp) (.cells #[.int .i64 0, .int .i64 0, .slice none 0 0, .int .i64 0, .int .i64 0, .int .i64 0, .int .i64 0, .int .i64 0, .int .i64 0, .int .i64 0] 43 (0, 0))).alloc (by simp; omega) (.cells #[.int .i64 0, .int .i64 0, .slice none 0 0, .int .i64 0, .int .i64 0, .int .i64 0, .int .i64 0, .int .i64 0, .int .i64 0, .int .i64 0] 43 (0, 0))
  have hr0 := row_alloc (row_alloc (new_row w (.cells #[.int .i64 a, .int .i64 b, .slice p n cap, .int .i64 m, .int .i64 x0, .int .i64 x1, .int .i64 x2, .int .i64 x3, .int .i64 x4, .int .i64 x5] 43 (0, 0)) _ rfl) (.cells #[.int .i64 0, .int .i64 0, .slice none 0 0, .int .i64 0, .int .i64 0, .int .i64 0, .int .i64 0, .int .i64 0, .int .i64 0, .int .i64 0] 43 (0, 0))) (.cells #[.int .i64 0, .int .i64 0, .slice none 0 0, .int .i64 0, .int .i64 0, .int .i64 0, .int .i64 0, .int .i64 0, .int .i64 0, .int .i64 0] 43 (0, 0))
  have hr2 := row_alloc (new_row (w.alloc (.cells #[.int .i64 a, .int .i64 b, .slice p n cap, .int .i64 m, .int .i64 x0, .int .i64 x1, .int .i64 x2, .int .i64 x3, .int .i64 x4, .int .i64 x5] 43 (0, 0))) (.cells #[.int .i64 0, .int .i64 0, .slice none 0 0, .int .i64 0, .int .i64 0, .int .i64 0, .int .i64 0, .int .i64 0, .int .i64 0, .int .i64 0] 43 (0, 0)) (w.heap.size + 1) (by simp)) (.cells #[.int .i64 0, .int .i64 0, .slice none 0 0, .int .i64 0, .int .i64 0, .int .i64 0, .int .i64 0, .int .i64 0, .int .i64 0, .int .i64 0] 43 (0, 0))
  have hr3 := new_row ((w.alloc (.cells #[.int .i64 a, .int .i64 b, .slice p n cap, .int .i64 m, .int .i64 x0, .int .i64 x1, .int .i64 x2, .int .i64 x3, .int .i64 x4, .int .i64 x5] 43 (0, 0))).alloc (.cells #[.int .i64 0, .int .i64 0, .slice none 0 0, .int .i64 0, .int .i64 0, .int .i64 0, .int .i64 0, .int .i64 0, .int .i64 0, .int .i64 0] 43 (0, 0))) (.cells #[.int .i64 0, .int .i64 0, .slice none 0 0, .int .i64 0, .int .i64 0, .int .i64 0, .int .i64 0, .int .i64 0, .int .i64 0, .int .i64 0] 43 (0, 0)) (w.heap.size + 1 + 1) (by simp)
  obtain ⟨f1, f2⟩ := row_loJ (cs := [.int .i64 a, .int .i64 b, .slice p n cap, .int .i64 m, .int .i64 x0, .int .i64 x1, .int .i64 x2, .int .i64 x3, .int .i64 x4, .int .i64 x5]) hr0 rfl
  go_enter Try.func21, Try.ntmps21
  go_wp2_with fail
  generalize ((w.alloc (.cells #[.int .i64 a, .int .i64 b, .slice p n cap, .int .i64 m, .int .i64 x0, .int .i64 x1, .int .i64 x2, .int .i64 x3, .int .i64 x4, .int .i64 x5] 43 (0, 0))).alloc (.cells #[.int .i64 0, .int .i64 0, .slice none 0 0, .int .i64 0, .int .i64 0, .int .i64 0, .int .i64 0, .int .i64 0, .int .i64 0, .int .i64 0] 43 (0, 0))).alloc (.cells #[.int .i64 0, .int .i64 0, .slice none 0 0, .int .i64 0, .int .i64 0, .int .i64 0, .int .i64 0, .int .i64 0, .int .i64 0, .int .i64 0] 43 (0, 0)) = W0 at *
  refine (HM.out _ (HS.out.below hb1)).mono ?_
  rintro e w1 ⟨rfl, hbq⟩
  have HB1 := Lib.hid (hb1.trans (hbq.mono hb1.size))
  have HR0 := Lib.hid ((hbq.block w.heap.size (block_lt hr0)).trans hr0)
  have HR2 := Lib.hid ((hbq.block (w.heap.size + 1) (block_lt hr2)).trans hr2)
  have HR3 := Lib.hid ((hbq.block (w.heap.size + 1 + 1) (block_lt hr3)).trans hr3)
  have HSL := Lib.hid ((HS.out.below hb1).below hbq)
  clear hb1 hbq hr0 hr2 hr3 f1 f2 HM HS
  have kc0 := fun j => cell_of_row w1 w.heap.size j _ _ _ HR0.out
  have h1n : ([.int .i64 0, .int .i64 0, .slice none 0 0, .int .i64 0, .int .i64 0, .int .i64 0, .int .i64 0, .int .i64 0, .int .i64 0, .int .i64 0] : List Value).length = 10 := rfl
  have h1c : ([.int .i64 0, .int .i64 0, .slice none 0 0, .int .i64 0, .int .i64 0, .int .i64 0, .int .i64 0, .int .i64 0, .int .i64 0, .int .i64 0] : List Value).all (·.oneCell') = true := rfl
  by_cases hgd : ba = true ∧ a ≤ day ∧ day < b
  · obtain ⟨rfl, hd1, hd2⟩ := hgd
    obtain ⟨hdd, hfine, hwi, hup, -⟩ := HMP.out.1 rfl
    have hd3 : 0 ≤ a ∧ a ≤ b ∧ b ≤ 1000000 := by unfold Rep.days at hdd; simp at hdd; omega
    have HD1 := Lib.hid hd1; have HD2 := Lib.hid hd2
    have HDW := Lib.hid (show wrap64 (day + 1) = day + 1 by unfold wrap64; omega)
    have HSZ := Lib.hid (show w.heap.size + 1 + 1 < w1.heap.size from block_lt HR3.out)
    have HMA := Lib.hid (fun W h => rPart_any a day l p n cap hnb (by unfold Rep.days; simp; omega) hfine hup _ (Rep.upTo_within hwi) er1 M1 z0 z1 z2 z3 z4 z5 HS1.out W h)
    have HMB := Lib.hid (fun W h => rPart_any (day + 1) b l p n cap hnb (by unfold Rep.days; simp; omega) hfine hup _ (Rep.behind_within hwi) er2 M2 u0 u1 u2 u3 u4 u5 HS2.out W h)
    have HC1 := Lib.hid (fun v => Rep.cellsR_length er1 a day M1 z0 z1 z2 z3 z4 z5 v)
    have HC2 := Lib.hid (fun v => Rep.cellsR_length er2 (day + 1) b M2 u0 u1 u2 u3 u4 u5 v)
    have HO1 := Lib.hid (fun p n c => Rep.cellsR_one er1 a day M1 z0 z1 z2 z3 z4 z5 p n c)
    have HO2 := Lib.hid (fun p n c => Rep.cellsR_one er2 (day + 1) b M2 u0 u1 u2 u3 u4 u5 p n c)
    generalize hC1 : Rep.cellsR er1 a day M1 [z0, z1, z2, z3, z4, z5] = C1 at *
    generalize hC2 : Rep.cellsR er2 (day + 1) b M2 [u0, u1, u2, u3, u4, u5] = C2 at *
    clear hC1 hC2 HS1 HS2 hdd hfine hwi hup hd3 HMP
    generalize l.filter (Rep.upTo day) = l1 at *
    generalize l.filter (Rep.behind day) = l2 at *
    go_wp2_with fail
    clear kc0
    refine (HMA.out _ HSL.out).mono ?_
    rintro e W ⟨p1, n1, c1, rfl, hmine, hb⟩
    have th := there_row10 (new_row W (.cells #[.int .i64 0, .int .i64 0, .slice none 0 0, .int .i64 0, .int .i64 0, .int .i64 0, .int .i64 0, .int .i64 0, .int .i64 0, .int .i64 0] 43 (0, 0)) _ rfl) rfl
    have hcl := HC1.out (.slice p1 n1 c1)
    have hco := HO1.out p1 n1 c1
    have hrw := setCells_rowA (cs := (C1 (.slice p1 n1 c1))) (new_row W (.cells #[.int .i64 0, .int .i64 0, .slice none 0 0, .int .i64 0, .int .i64 0, .int .i64 0, .int .i64 0, .int .i64 0, .int .i64 0, .int .i64 0] 43 (0, 0)) _ rfl) hcl.symm
    have hbw := Only.below ((Below.refl W.heap.size W).alloc (Nat.le_refl _) (.cells #[.int .i64 0, .int .i64 0, .slice none 0 0, .int .i64 0, .int .i64 0, .int .i64 0, .int .i64 0, .int .i64 0, .int .i64 0, .int .i64 0] 43 (0, 0))) (Nat.le_refl _) (by simp) ((Only.refl W.heap.size (W.alloc (.cells #[.int .i64 0, .int .i64 0, .slice none 0 0, .int .i64 0, .int .i64 0, .int .i64 0, .int .i64 0, .int .i64 0, .int .i64 0, .int .i64 0] 43 (0, 0)))).setCells 0 (C1 (.slice p1 n1 c1)))
    have hNB : w1.heap.size ≤ W.heap.size := hb.size
    go_upto_region 4 with fail
    generalize hW2 : ((W.alloc (.cells #[.int .i64 0, .int .i64 0, .slice none 0 0, .int .i64 0, .int .i64 0, .int .i64 0, .int .i64 0, .int .i64 0, .int .i64 0, .int .i64 0] 43 (0, 0))).setCells W.heap.size 0 (C1 (.slice p1 n1 c1))) = w2 at *
    have HRW1 := Lib.hid hrw; have HBB1 := Lib.hid (hb.trans (hbw.mono hb.size)); have HMI1 := Lib.hid (hmine.below hbw)
    obtain ⟨N1, hN1⟩ : ∃ N, W.heap.size = N := ⟨_, rfl⟩
    rw [hN1] at HRW1 hNB ⊢
    have HNB1 := Lib.hid hNB
    clear th hcl hco hrw hbw hmine hb hNB hW2 hN1
    have HR0 := Lib.hid ((HBB1.out.block _ (block_lt HR0.out)).trans HR0.out)
    have HR2 := Lib.hid ((HBB1.out.block _ (block_lt HR2.out)).trans HR2.out)
    have HR3 := Lib.hid ((HBB1.out.block _ (block_lt HR3.out)).trans HR3.out)
    have HSL := Lib.hid (HSL.out.below HBB1.out)
    have kc0 := fun j => cell_of_row w2 w.heap.size j _ _ _ HR0.out
    go_wp2_with fail
    rw [HDW.out]
    clear kc0
    refine (HMB.out _ HSL.out).mono ?_
    rintro e W ⟨p2, n2, c2, rfl, hmine, hb⟩
    have th := there_row10 (new_row W (.cells #[.int .i64 0, .int .i64 0, .slice none 0 0, .int .i64 0, .int .i64 0, .int .i64 0, .int .i64 0, .int .i64 0, .int .i64 0, .int .i64 0] 43 (0, 0)) _ rfl) rfl
    have hcl := HC2.out (.slice p2 n2 c2)
    have hco := HO2.out p2 n2 c2
    have hrw := setCells_rowA (cs := (C2 (.slice p2 n2 c2))) (new_row W (.cells #[.int .i64 0, .int .i64 0, .slice none 0 0, .int .i64 0, .int .i64 0, .int .i64 0, .int .i64 0, .int .i64 0, .int .i64 0, .int .i64 0] 43 (0, 0)) _ rfl) hcl.symm
    have hbw := Only.below ((Below.refl W.heap.size W).alloc (Nat.le_refl _) (.cells #[.int .i64 0, .int .i64 0, .slice none 0 0, .int .i64 0, .int .i64 0, .int .i64 0, .int .i64 0, .int .i64 0, .int .i64 0, .int .i64 0] 43 (0, 0))) (Nat.le_refl _) (by simp) ((Only.refl W.heap.size (W.alloc (.cells #[.int .i64 0, .int .i64 0, .slice none 0 0, .int .i64 0, .int .i64 0, .int .i64 0, .int .i64 0, .int .i64 0, .int .i64 0, .int .i64 0] 43 (0, 0)))).setCells 0 (C2 (.slice p2 n2 c2)))
    have hNB : w2.heap.size ≤ W.heap.size := hb.size
    go_upto_region 5 with fail
    generalize hW2 : ((W.alloc (.cells #[.int .i64 0, .int .i64 0, .slice none 0 0, .int .i64 0, .int .i64 0, .int .i64 0, .int .i64 0, .int .i64 0, .int .i64 0, .int .i64 0] 43 (0, 0))).setCells W.heap.size 0 (C2 (.slice p2 n2 c2))) = w3 at *
    have HRW2 := Lib.hid hrw; have HBB2 := Lib.hid (hb.trans (hbw.mono hb.size)); have HMI2 := Lib.hid (hmine.below hbw)
    obtain ⟨N2, hN2⟩ : ∃ N, W.heap.size = N := ⟨_, rfl⟩
    rw [hN2] at HRW2 hNB ⊢
    have HNB2 := Lib.hid hNB
    clear th hcl hco hrw hbw hmine hb hNB hW2 hN2
    have HR0 := Lib.hid ((HBB2.out.block _ (block_lt HR0.out)).trans HR0.out)
    have HR2 := Lib.hid ((HBB2.out.block _ (block_lt HR2.out)).trans HR2.out)
    have HR3 := Lib.hid ((HBB2.out.block _ (block_lt HR3.out)).trans HR3.out)
    have HSL := Lib.hid (HSL.out.below HBB2.out)
    have HB2 := Lib.hid (HB1.out.trans (HBB1.out.mono HB1.out.size))
    have HB3 := Lib.hid (HB2.out.trans (HBB2.out.mono HB2.out.size))
    have HMI1 := Lib.hid (HMI1.out.below HBB2.out); have HRW1 := Lib.hid ((HBB2.out.block _ (block_lt HRW1.out)).trans HRW1.out)
    have HXS : Hid (w.heap.size + 1 + 1 < w1.heap.size ∧ w1.heap.size ≤ N1) := Lib.hid ⟨HSZ.out, HNB1.out⟩
    have HXT : Hid (w1.heap.size ≤ w2.heap.size ∧ w2.heap.size ≤ N2) := Lib.hid ⟨HBB1.out.size, HNB2.out⟩
    clear HB1 HB2 HBB1 HBB2 HR0 HSL HMA HMB HNB1 HNB2
    by_cases he : er1 = 0 ∧ er2 = 0
    · obtain ⟨rfl, rfl⟩ := he
      go_upto_region 7 with fail
      refine wp_region_rel (T := fun A B => (A.heap[w.heap.size + 1]? = some (.cells (C1 (.slice p1 n1 c1)).toArray 43 (0, 0)) → B.heap[w.heap.size + 1]? = some (.cells (C1 (.slice p1 n1 c1)).toArray 43 (0, 0))) ∧ (A.heap[w.heap.size + 1 + 1]? = some (.cells (C2 (.slice p2 n2 c2)).toArray 43 (0, 0)) → B.heap[w.heap.size + 1 + 1]? = some (.cells (C2 (.slice p2 n2 c2)).toArray 43 (0, 0)))) (G := fun W => Below w.heap.size w W ∧ Mine Pst.cells 10 W w1.heap.size (.slice p1 n1 c1) l1 ∧ Mine Pst.cells 10 W w2.heap.size (.slice p2 n2 c2) l2 ∧ W.heap[N1]? = some (.cells (C1 (.slice p1 n1 c1)).toArray 43 (0, 0)) ∧ W.heap[N2]? = some (.cells (C2 (.slice p2 n2 c2)).toArray 43 (0, 0)) ∧ (∃ cs : Array Value, cs.size = 10 ∧ W.heap[w.heap.size + 1]? = some (.cells cs 43 (0, 0))) ∧ ∃ cs : Array Value, cs.size = 10 ∧ W.heap[w.heap.size + 1 + 1]? = some (.cells cs 43 (0, 0))) (R := fun k => match k with | 0 => fun v _ => v = .agg (C1 (.slice p1 n1 c1)).toArray | 1 => fun v _ => v = .agg (C2 (.slice p2 n2 c2)).toArray | 2 => fun _ W => W.heap[w.heap.size + 1]? = some (.cells (C1 (.slice p1 n1 c1)).toArray 43 (0, 0)) | 3 => fun _ W => W.heap[w.heap.size + 1 + 1]? = some (.cells (C2 (.slice p2 n2 c2)).toArray 43 (0, 0)) | 4 => fun v _ => v = .int .i64 0 | _ => fun _ _ => True) (by kernel_rfl) (by kernel_rfl) (by kernel_rfl) ?iT (⟨HB3.out.drew, HMI1.out.below (Below.refl _ _).drew, HMI2.out.below (Below.refl _ _).drew, HRW1.out, HRW2.out, ⟨_, rfl, HR2.out⟩, _, rfl, HR3.out⟩) ?iS ?iD
      case iT =>
        intro k v A B hT h
        match k, h with
        | 0, h => exact h
        | 1, h => exact h
        | 2, h => exact hT.1 h
        | 3, h => exact hT.2 h
        | 4, h => exact h
        | _ + 5, h => exact trivial
      case iS =>
        refine ⟨?s0, ?s1, ?s2, ?s3, ?s4, trivial⟩
        case s0 =>
          intro f W hG hW K hK
          try dsimp only at hG
          simp only [putF, Act.put, List.setIfInBounds_toArray, List.set_cons_zero, List.set_cons_succ, Nat.reduceAdd, Nat.zero_add] at hK ⊢
          obtain ⟨hGB, hO1, hO2, hN1, hN2, ⟨cs4, hc4, h4⟩, cs5, hc5, h5⟩ := hG
          have hG : Below w.heap.size w W ∧ Mine Pst.cells 10 W w1.heap.size (.slice p1 n1 c1) l1 ∧ Mine Pst.cells 10 W w2.heap.size (.slice p2 n2 c2) l2 ∧ W.heap[N1]? = some (.cells (C1 (.slice p1 n1 c1)).toArray 43 (0, 0)) ∧ W.heap[N2]? = some (.cells (C2 (.slice p2 n2 c2)).toArray 43 (0, 0)) ∧ (∃ cs : Array Value, cs.size = 10 ∧ W.heap[w.heap.size + 1]? = some (.cells cs 43 (0, 0))) ∧ ∃ cs : Array Value, cs.size = 10 ∧ W.heap[w.heap.size + 1 + 1]? = some (.cells cs 43 (0, 0)) := ⟨hGB, hO1, hO2, hN1, hN2, ⟨cs4, hc4, h4⟩, cs5, hc5, h5⟩
          obtain ⟨f1, f2⟩ := row_loJ hN1 (HC1.out _)
          clear hW
          go_simp
          refine hK.out _ _ ⟨id, id⟩ hG ?_
          first | with_reducible rfl | rfl
        case s1 =>
          intro f W hG hW K hK
          try dsimp only at hG
          simp only [putF, Act.put, List.setIfInBounds_toArray, List.set_cons_zero, List.set_cons_succ, Nat.reduceAdd, Nat.zero_add] at hK ⊢
          obtain ⟨hGB, hO1, hO2, hN1, hN2, ⟨cs4, hc4, h4⟩, cs5, hc5, h5⟩ := hG
          have hG : Below w.heap.size w W ∧ Mine Pst.cells 10 W w1.heap.size (.slice p1 n1 c1) l1 ∧ Mine Pst.cells 10 W w2.heap.size (.slice p2 n2 c2) l2 ∧ W.heap[N1]? = some (.cells (C1 (.slice p1 n1 c1)).toArray 43 (0, 0)) ∧ W.heap[N2]? = some (.cells (C2 (.slice p2 n2 c2)).toArray 43 (0, 0)) ∧ (∃ cs : Array Value, cs.size = 10 ∧ W.heap[w.heap.size + 1]? = some (.cells cs 43 (0, 0))) ∧ ∃ cs : Array Value, cs.size = 10 ∧ W.heap[w.heap.size + 1 + 1]? = some (.cells cs 43 (0, 0)) := ⟨hGB, hO1, hO2, hN1, hN2, ⟨cs4, hc4, h4⟩, cs5, hc5, h5⟩
          obtain ⟨f1, f2⟩ := row_loJ hN2 (HC2.out _)
          clear hW
          go_simp
          refine hK.out _ _ ⟨id, id⟩ hG ?_
          first | with_reducible rfl | rfl
        case s2 =>
          intro f W hG hW K hK
          try dsimp only at hG
          have e0 := hW 0 (by kernel_rfl)
          change f 0 = .agg (C1 (.slice p1 n1 c1)).toArray at e0
          simp only [putF, Act.put, List.setIfInBounds_toArray, List.set_cons_zero, List.set_cons_succ, Nat.reduceAdd, Nat.zero_add] at hK ⊢
          (try rw [e0])
          (try rw [e0] at hK)
          have HX1 := HXS.out; have HX2 := HXT.out
          obtain ⟨hGB, hO1, hO2, hN1, hN2, ⟨cs4, hc4, h4⟩, cs5, hc5, h5⟩ := hG
          have hG : Below w.heap.size w W ∧ Mine Pst.cells 10 W w1.heap.size (.slice p1 n1 c1) l1 ∧ Mine Pst.cells 10 W w2.heap.size (.slice p2 n2 c2) l2 ∧ W.heap[N1]? = some (.cells (C1 (.slice p1 n1 c1)).toArray 43 (0, 0)) ∧ W.heap[N2]? = some (.cells (C2 (.slice p2 n2 c2)).toArray 43 (0, 0)) ∧ (∃ cs : Array Value, cs.size = 10 ∧ W.heap[w.heap.size + 1]? = some (.cells cs 43 (0, 0))) ∧ ∃ cs : Array Value, cs.size = 10 ∧ W.heap[w.heap.size + 1 + 1]? = some (.cells cs 43 (0, 0)) := ⟨hGB, hO1, hO2, hN1, hN2, ⟨cs4, hc4, h4⟩, cs5, hc5, h5⟩
          have th := there_row10 h4 hc4
          have hcl := HC1.out (.slice p1 n1 c1)
          have hco := HO1.out p1 n1 c1
          have hst := KeptB.store (B := w.heap.size) h4 hc4 (by omega) (C1 (.slice p1 n1 c1)) hcl
          have ho := (Only.refl (w.heap.size + 1) W).setCells 0 (C1 (.slice p1 n1 c1))
          clear hW
          go_simp
          refine hK.out undef _ ⟨fun _ => hst.2, fun h => (ho.block _ (block_lt h5) (by omega)).trans h⟩ ⟨KeptB.below hGB hGB.size hst.1, hO1.only (by omega) ho, hO2.only (by omega) ho, (ho.block N1 (block_lt hN1) (by omega)).trans hN1, (ho.block N2 (block_lt hN2) (by omega)).trans hN2, ⟨_, by simpa using hcl, hst.2⟩, cs5, hc5, (ho.block _ (block_lt h5) (by omega)).trans h5⟩ ?_
          exact hst.2
        case s3 =>
          intro f W hG hW K hK
          try dsimp only at hG
          have e0 := hW 0 (by kernel_rfl)
          change f 0 = .agg (C1 (.slice p1 n1 c1)).toArray at e0
          have e1 := hW 1 (by kernel_rfl)
          change f 1 = .agg (C2 (.slice p2 n2 c2)).toArray at e1
          have e2 := hW 2 (by kernel_rfl)
          try dsimp only at e2
          simp only [putF, Act.put, List.setIfInBounds_toArray, List.set_cons_zero, List.set_cons_succ, Nat.reduceAdd, Nat.zero_add] at hK ⊢
          (try rw [e0])
          (try rw [e0] at hK)
          (try rw [e1])
          (try rw [e1] at hK)
          have HX1 := HXS.out; have HX2 := HXT.out
          obtain ⟨hGB, hO1, hO2, hN1, hN2, ⟨cs4, hc4, h4⟩, cs5, hc5, h5⟩ := hG
          have hG : Below w.heap.size w W ∧ Mine Pst.cells 10 W w1.heap.size (.slice p1 n1 c1) l1 ∧ Mine Pst.cells 10 W w2.heap.size (.slice p2 n2 c2) l2 ∧ W.heap[N1]? = some (.cells (C1 (.slice p1 n1 c1)).toArray 43 (0, 0)) ∧ W.heap[N2]? = some (.cells (C2 (.slice p2 n2 c2)).toArray 43 (0, 0)) ∧ (∃ cs : Array Value, cs.size = 10 ∧ W.heap[w.heap.size + 1]? = some (.cells cs 43 (0, 0))) ∧ ∃ cs : Array Value, cs.size = 10 ∧ W.heap[w.heap.size + 1 + 1]? = some (.cells cs 43 (0, 0)) := ⟨hGB, hO1, hO2, hN1, hN2, ⟨cs4, hc4, h4⟩, cs5, hc5, h5⟩
          have th := there_row10 h5 hc5
          have hcl := HC2.out (.slice p2 n2 c2)
          have hco := HO2.out p2 n2 c2
          have hst := KeptB.store (B := w.heap.size) h5 hc5 (by omega) (C2 (.slice p2 n2 c2)) hcl
          have ho := (Only.refl (w.heap.size + 1 + 1) W).setCells 0 (C2 (.slice p2 n2 c2))
          clear hW
          go_simp
          refine hK.out undef _ ⟨fun h => (ho.block _ (block_lt h4) (by omega)).trans h, fun _ => hst.2⟩ ⟨KeptB.below hGB hGB.size hst.1, hO1.only (by omega) ho, hO2.only (by omega) ho, (ho.block N1 (block_lt hN1) (by omega)).trans hN1, (ho.block N2 (block_lt hN2) (by omega)).trans hN2, ⟨cs4, hc4, (ho.block _ (block_lt h4) (by omega)).trans h4⟩, _, by simpa using hcl, hst.2⟩ ?_
          exact hst.2
        case s4 =>
          intro f W hG hW K hK
          try dsimp only at hG
          have e0 := hW 0 (by kernel_rfl)
          change f 0 = .agg (C1 (.slice p1 n1 c1)).toArray at e0
          have e1 := hW 1 (by kernel_rfl)
          change f 1 = .agg (C2 (.slice p2 n2 c2)).toArray at e1
          have e2 := hW 2 (by kernel_rfl)
          try dsimp only at e2
          have e3 := hW 3 (by kernel_rfl)
          try dsimp only at e3
          simp only [putF, Act.put, List.setIfInBounds_toArray, List.set_cons_zero, List.set_cons_succ, Nat.reduceAdd, Nat.zero_add] at hK ⊢
          (try rw [e0])
          (try rw [e0] at hK)
          (try rw [e1])
          (try rw [e1] at hK)
          clear hW
          go_simp
          refine hK.out _ _ ⟨id, id⟩ hG ?_
          first | exact trivial | with_reducible rfl | rfl
      case iD =>
        intro f W hG hR
        try dsimp only at hG
        have r0 := hR 0 (by decide)
        change f 0 = .agg (C1 (.slice p1 n1 c1)).toArray at r0
        have r1 := hR 1 (by decide)
        change f 1 = .agg (C2 (.slice p2 n2 c2)).toArray at r1
        have r2 := hR 2 (by decide)
        try dsimp only at r2
        have r3 := hR 3 (by decide)
        try dsimp only at r3
        have r4 := hR 4 (by decide)
        change f 4 = .int .i64 0 at r4
        clear hR
        simp only [putF, Act.put, List.setIfInBounds_toArray, List.set_cons_zero, List.set_cons_succ, Nat.reduceAdd, Nat.zero_add]
        (try rw [r0])
        (try rw [r1])
        (try rw [r4])
        obtain ⟨hGB, hO1, hO2, -⟩ := hG
        have HGB := Lib.hid hGB; have HP1 := Lib.hid (hO1.ls Pst.cells_length (by decide)); have HP2 := Lib.hid (hO2.ls Pst.cells_length (by decide)); have HQ4 := Lib.hid r2; have HQ5 := Lib.hid r3
        clear hGB hO1 hO2 r0 r1 r2 r3 r4
        go_wp2_with fail
        refine bodyPost_ret (results_two rfl _ _ (w.heap.size + 1) (w.heap.size + 1 + 1) rfl rfl (loadRp HQ4.out (by simpa using HC1.out _)) (loadRp HQ5.out (by simpa using HC2.out _))) rfl ?_
        exact HOK.out _ _ _ ⟨trivial, HD1.out, HD2.out⟩ (by trivial) (by trivial) HP1.out HP2.out HGB.out
    · have HNE := Lib.hid he
      have HV : Hid (er1 ≠ 0 ∨ (er1 = 0 ∧ er2 ≠ 0)) := Lib.hid (by by_cases h : er1 = 0; exact .inr ⟨h, fun h2 => he ⟨h, h2⟩⟩; exact .inl h)
      clear he HRW1 HRW2 HMI1 HMI2 HXS HXT
      have th2 := there_row10 HR2.out rfl
      have th3 := there_row10 HR3.out rfl
      rcases HV.out with h1 | ⟨rfl, h1⟩
      all_goals
        go_wp2
        have hq2 := setCells_rowA (cs := [.int .i64 0, .int .i64 0, .slice none 0 0, .int .i64 0, .int .i64 0, .int .i64 0, .int .i64 0, .int .i64 0, .int .i64 0, .int .i64 0]) HR2.out rfl
        have hq3 := (((Only.refl (w.heap.size + 1) w3).setCells 0 [.int .i64 0, .int .i64 0, .slice none 0 0, .int .i64 0, .int .i64 0, .int .i64 0, .int .i64 0, .int .i64 0, .int .i64 0, .int .i64 0]).block (w.heap.size + 1 + 1) (block_lt HR3.out) (by omega)).trans HR3.out
        have hq4 := setCells_rowA (cs := [.int .i64 0, .int .i64 0, .slice none 0 0, .int .i64 0, .int .i64 0, .int .i64 0, .int .i64 0, .int .i64 0, .int .i64 0, .int .i64 0]) hq3 rfl
        have hq5 := (((Only.refl (w.heap.size + 1 + 1) (w3.setCells (w.heap.size + 1) 0 [.int .i64 0, .int .i64 0, .slice none 0 0, .int .i64 0, .int .i64 0, .int .i64 0, .int .i64 0, .int .i64 0, .int .i64 0, .int .i64 0])).setCells 0 [.int .i64 0, .int .i64 0, .slice none 0 0, .int .i64 0, .int .i64 0, .int .i64 0, .int .i64 0, .int .i64 0, .int .i64 0, .int .i64 0]).block (w.heap.size + 1) (block_lt hq2) (by omega)).trans hq2
        refine bodyPost_ret (results_two rfl _ _ (w.heap.size + 1) (w.heap.size + 1 + 1) rfl rfl (loadRp hq5 rfl) (loadRp hq4 rfl)) rfl ?_
        exact HER.out _ ⟨trivial, HD1.out, HD2.out⟩ HNE.out (Only.below (Only.below HB3.out (by omega) HB3.out.size ((Only.refl _ _).setCells 0 _)) (by omega) (Nat.le_trans HB3.out.size ((Only.refl (w.heap.size + 1) w3).setCells 0 _).size) ((Only.refl _ _).setCells 0 _))
  · have HNG := Lib.hid hgd
    have HV : Hid (ba = false ∨ (ba = true ∧ day < a) ∨ (ba = true ∧ a ≤ day ∧ b ≤ day)) := Lib.hid (by cases ba <;> simp_all <;> omega)
    clear hgd HMP
    have th2 := there_row10 HR2.out rfl
    have th3 := there_row10 HR3.out rfl
    rcases HV.out with rfl | ⟨rfl, h1⟩ | ⟨rfl, h1, h2⟩
    all_goals
      go_wp2
      have hq2 := setCells_rowA (cs := [.int .i64 0, .int .i64 0, .slice none 0 0, .int .i64 0, .int .i64 0, .int .i64 0, .int .i64 0, .int .i64 0, .int .i64 0, .int .i64 0]) HR2.out rfl
      have hq3 := (((Only.refl (w.heap.size + 1) w1).setCells 0 [.int .i64 0, .int .i64 0, .slice none 0 0, .int .i64 0, .int .i64 0, .int .i64 0, .int .i64 0, .int .i64 0, .int .i64 0, .int .i64 0]).block (w.heap.size + 1 + 1) (block_lt HR3.out) (by omega)).trans HR3.out
      have hq4 := setCells_rowA (cs := [.int .i64 0, .int .i64 0, .slice none 0 0, .int .i64 0, .int .i64 0, .int .i64 0, .int .i64 0, .int .i64 0, .int .i64 0, .int .i64 0]) hq3 rfl
      have hq5 := (((Only.refl (w.heap.size + 1 + 1) (w1.setCells (w.heap.size + 1) 0 [.int .i64 0, .int .i64 0, .slice none 0 0, .int .i64 0, .int .i64 0, .int .i64 0, .int .i64 0, .int .i64 0, .int .i64 0, .int .i64 0])).setCells 0 [.int .i64 0, .int .i64 0, .slice none 0 0, .int .i64 0, .int .i64 0, .int .i64 0, .int .i64 0, .int .i64 0, .int .i64 0, .int .i64 0]).block (w.heap.size + 1) (block_lt hq2) (by omega)).trans hq2
      refine bodyPost_ret (results_two rfl _ _ (w.heap.size + 1) (w.heap.size + 1 + 1) rfl rfl (loadRp hq5 rfl) (loadRp hq4 rfl)) rfl ?_
      exact HWR.out _ HNG.out (Only.below (Only.below HB1.out (by omega) HB1.out.size ((Only.refl _ _).setCells 0 _)) (by omega) (Nat.le_trans HB1.out.size ((Only.refl (w.heap.size + 1) w1).setCells 0 _).size) ((Only.refl _ _).setCells 0 _))
end Go.Proofs.Ytajpggnmhkpbkaa
