/- Contract: report.Join. -/
import Derived.Test.YtajpggnmhkpbkaaRfw41

set_option linter.unusedVariables false
set_option linter.unusedSimpArgs false
namespace Go.Proofs.Ytajpggnmhkpbkaa
open Go.RowKit

theorem Rep.str_of_may {a b : Int} {l : List Pst} {m : Int} {x : List Int} (hw : WF l) (h : Rep.MayP a b l m x) : Rep.Str l := by
  obtain ⟨_, hf, _, hu, _⟩ := h
  have h1 := ((Rep.fine_pairwise l).1 hf).2
  have h2 := List.Pairwise.and hu h1
  refine List.Pairwise.imp_of_mem ?_ h2
  intro y z hy hz hyz
  have h3 := Rep.alike_key (hw y hy) (hw z hz)
  rcases Int.lt_or_eq_of_le hyz.1 with h | h
  · exact h
  · have := h3.2 h
    rw [hyz.2] at this
    cases this
/-- what a join tells: an error 2; or the report of all rows in order, where their totals may be -/
def Rep.Good (b : Int) (la : List Pst) (a' : Int) (lb : List Pst) (ba bb : Bool) : Prop := ba = true ∧ bb = true ∧ a' = b + 1 ∧ Rep.FineP (la ++ lb)
def Rep.JoinR (a b : Int) (la : List Pst) (a' b' : Int) (lb : List Pst) (ba bb : Bool) (w : World) (C : (Ending → World → Prop) → Prop) : Prop :=
  ∀ R : Ending → World → Prop,
    (∀ w', ¬ Rep.Good b la a' lb ba bb → Below w.heap.size w w' → R (.returned (.tuple #[.agg #[.int .i64 0, .int .i64 0, .slice none 0 0, .int .i64 0, .int .i64 0, .int .i64 0, .int .i64 0, .int .i64 0, .int .i64 0, .int .i64 0], .int .i64 2])) w') →
    (∀ (w' : World) (v : Value) (s : List Pst) (M z0 z1 z2 z3 z4 z5 : Int), Rep.Good b la a' lb ba bb → Post.sums s = ⟨0, M, [z0, z1, z2, z3, z4, z5]⟩ → (la ++ lb).Perm s → Rep.Str s → Mine Pst.cells 10 w' w.heap.size v s → Below w.heap.size w w' → R (.returned (.tuple #[.agg #[.int .i64 a, .int .i64 b', v, .int .i64 M, .int .i64 z0, .int .i64 z1, .int .i64 z2, .int .i64 z3, .int .i64 z4, .int .i64 z5], .int .i64 0])) w') →
    (∀ (w' : World) (s : List Pst) (ev M z0 z1 z2 z3 z4 z5 : Int), Rep.Good b la a' lb ba bb → Post.sums s = ⟨ev, M, [z0, z1, z2, z3, z4, z5]⟩ → (la ++ lb).Perm s → Rep.Str s → ¬ ev = 0 → Below w.heap.size w w' → R (.returned (.tuple #[.agg #[.int .i64 0, .int .i64 0, .slice none 0 0, .int .i64 0, .int .i64 0, .int .i64 0, .int .i64 0, .int .i64 0, .int .i64 0, .int .i64 0], .int .i64 ev])) w') → C R
set_option maxRecDepth 8000 in
set_option maxHeartbeats 8000000 in
theorem join_any (a b : Int) (la : List Pst) (pa : Option Addr) (na ca : Nat) (m x0 x1 x2 x3 x4 x5 : Int) (a' b' : Int) (lb : List Pst) (pb : Option Addr) (nb cb : Nat) (m' y0 y1 y2 y3 y4 y5 : Int) (ba bb : Bool) (hba : ba = true ↔ Rep.MayP a b la m [x0, x1, x2, x3, x4, x5]) (hbb : bb = true ↔ Rep.MayP a' b' lb m' [y0, y1, y2, y3, y4, y5]) (hna : na ≤ 400000) (hnb : nb ≤ 400000) (w : World) (hsa : PS w (.slice pa na ca) la) (hsb : PS w (.slice pb nb cb) lb) :
    Rep.JoinR a b la a' b' lb ba bb w (Calls Try.prog 17 #[.agg #[.int .i64 a, .int .i64 b, .slice pa na ca, .int .i64 m, .int .i64 x0, .int .i64 x1, .int .i64 x2, .int .i64 x3, .int .i64 x4, .int .i64 x5], .agg #[.int .i64 a', .int .i64 b', .slice pb nb cb, .int .i64 m', .int .i64 y0, .int .i64 y1, .int .i64 y2, .int .i64 y3, .int .i64 y4, .int .i64 y5]] w) := by
  intro R hbad hok her
  have HWRG := Lib.hid hbad; have HOK := Lib.hid hok; have HER := Lib.hid her
  clear hbad hok her
  have HMA := Lib.hid (fun W h => pMay_any a b la pa na ca m x0 x1 x2 x3 x4 x5 ba hba W h)
  have HMB := Lib.hid (fun W h => pMay_any a' b' lb pb nb cb m' y0 y1 y2 y3 y4 y5 bb hbb W h)
  have HSA := Lib.hid hsa; have HSB := Lib.hid hsb
  have hb0 := ((Below.refl w.heap.size w).alloc (Nat.le_refl _) (.cells #[.int .i64 a, .int .i64 b, .slice pa na ca, .int .i64 m, .int .i64 x0, .int .i64 x1, .int .i64 x2, .int .i64 x3, .int .i64 x4, .int .i64 x5] 43 (0, 0))).alloc (by simp) (.cells #[.int .i64 a', .int .i64 b', .slice pb nb cb, .int .i64 m', .int .i64 y0, .int .i64 y1, .int .i64 y2, .int .i64 y3, .int .i64 y4, .int .i64 y5] 43 (0, 0))
  have hb1 := hb0.alloc (by simp; omega) (.cells #[.int .i64 0, .int .i64 0, .slice none 0 0, .int .i64 0, .int .i64 0, .int .i64 0, .int .i64 0, .int .i64 0, .int .i64 0, .int .i64 0] 43 (0, 0))
  have hr0 := row_alloc (row_alloc (new_row w (.cells #[.int .i64 a, .int .i64 b, .slice pa na ca, .int .i64 m, .int .i64 x0, .int .i64 x1, .int .i64 x2, .int .i64 x3, .int .i64 x4, .int .i64 x5] 43 (0, 0)) _ rfl) (.cells #[.int .i64 a', .int .i64 b', .slice pb nb cb, .int .i64 m', .int .i64 y0, .int .i64 y1, .int .i64 y2, .int .i64 y3, .int .i64 y4, .int .i64 y5] 43 (0, 0))) (.cells #[.int .i64 0, .int .i64 0, .slice none 0 0, .int .i64 0, .int .i64 0, .int .i64 0, .int .i64 0, .int .i64 0, .int .i64 0, .int .i64 0] 43 (0, 0))
  have hr1 := row_alloc (new_row (w.alloc (.cells #[.int .i64 a, .int .i64 b, .slice pa na ca, .int .i64 m, .int .i64 x0, .int .i64 x1, .int .i64 x2, .int .i64 x3, .int .i64 x4, .int .i64 x5] 43 (0, 0))) (.cells #[.int .i64 a', .int .i64 b', .slice pb nb cb, .int .i64 m', .int .i64 y0, .int .i64 y1, .int .i64 y2, .int .i64 y3, .int .i64 y4, .int .i64 y5] 43 (0, 0)) (w.heap.size + 1) (by simp)) (.cells #[.int .i64 0, .int .i64 0, .slice none 0 0, .int .i64 0, .int .i64 0, .int .i64 0, .int .i64 0, .int .i64 0, .int .i64 0, .int .i64 0] 43 (0, 0))
  have hr2 := new_row ((w.alloc (.cells #[.int .i64 a, .int .i64 b, .slice pa na ca, .int .i64 m, .int .i64 x0, .int .i64 x1, .int .i64 x2, .int .i64 x3, .int .i64 x4, .int .i64 x5] 43 (0, 0))).alloc (.cells #[.int .i64 a', .int .i64 b', .slice pb nb cb, .int .i64 m', .int .i64 y0, .int .i64 y1, .int .i64 y2, .int .i64 y3, .int .i64 y4, .int .i64 y5] 43 (0, 0))) (.cells #[.int .i64 0, .int .i64 0, .slice none 0 0, .int .i64 0, .int .i64 0, .int .i64 0, .int .i64 0, .int .i64 0, .int .i64 0, .int .i64 0] 43 (0, 0)) (w.heap.size + 1 + 1) (by simp)
  have HDA : Hid (ba = true → b ≤ 1000000) := Lib.hid (fun h => by have := (hba.1 h).1; unfold Rep.days at this; simp at this; omega)
  have HQA := Lib.hid hba; have HQB := Lib.hid hbb
  clear hba hbb hsa hsb
  go_enter Try.func17, Try.ntmps17
  go_wp2_with fail
  generalize ((w.alloc (.cells #[.int .i64 a, .int .i64 b, .slice pa na ca, .int .i64 m, .int .i64 x0, .int .i64 x1, .int .i64 x2, .int .i64 x3, .int .i64 x4, .int .i64 x5] 43 (0, 0))).alloc (.cells #[.int .i64 a', .int .i64 b', .slice pb nb cb, .int .i64 m', .int .i64 y0, .int .i64 y1, .int .i64 y2, .int .i64 y3, .int .i64 y4, .int .i64 y5] 43 (0, 0))).alloc (.cells #[.int .i64 0, .int .i64 0, .slice none 0 0, .int .i64 0, .int .i64 0, .int .i64 0, .int .i64 0, .int .i64 0, .int .i64 0, .int .i64 0] 43 (0, 0)) = W0 at *
  refine (HMA.out _ (HSA.out.below hb1)).mono ?_
  rintro e w1 ⟨rfl, hbq⟩
  have HB1 := Lib.hid (hb1.trans (hbq.mono hb1.size))
  have HR0 := Lib.hid ((hbq.block w.heap.size (block_lt hr0)).trans hr0)
  have HR1 := Lib.hid ((hbq.block (w.heap.size + 1) (block_lt hr1)).trans hr1)
  have HR2 := Lib.hid ((hbq.block (w.heap.size + 1 + 1) (block_lt hr2)).trans hr2)
  have HSA1 := Lib.hid ((HSA.out.below hb1).below hbq); have HSB1 := Lib.hid ((HSB.out.below hb1).below hbq)
  clear hb0 hb1 hbq hr0 hr1 hr2 HMA HSA HSB
  have kc0 := fun j => cell_of_row w1 w.heap.size j _ _ _ HR0.out
  have kc1 := fun j => cell_of_row w1 (w.heap.size + 1) j _ _ _ HR1.out
  have kc2 := fun j => cell_of_row w1 (w.heap.size + 1 + 1) j _ _ _ HR2.out
  have kf2 := fun j => frozen_of_row w1 (w.heap.size + 1 + 1) j _ _ HR2.out
  cases ba
  · go_wp2
    have hrow := ten_row HR2.out (.int .i64 0) (.int .i64 0) (.slice none 0 0) (.int .i64 0) (.int .i64 0) (.int .i64 0) (.int .i64 0) (.int .i64 0) (.int .i64 0) (.int .i64 0)
    refine bodyPost_ret (v := .tuple #[.agg #[.int .i64 0, .int .i64 0, .slice none 0 0, .int .i64 0, .int .i64 0, .int .i64 0, .int .i64 0, .int .i64 0, .int .i64 0, .int .i64 0], .int .i64 2]) (by simp [results, Try.results17, go_sem, fun i => cell_of_row _ _ i _ _ _ hrow]) rfl ?_
    exact HWRG.out _ (fun h => by cases h.1) (ten_below HB1.out (by omega) _ _ _ _ _ _ _ _ _ _)
  · go_wp2_with fail
    refine (HMB.out _ HSB1.out).mono ?_
    rintro e w2 ⟨rfl, hbq⟩
    have HB2 := Lib.hid (HB1.out.trans (hbq.mono HB1.out.size))
    have HR0x := Lib.hid ((hbq.block w.heap.size (block_lt HR0.out)).trans HR0.out)
    have HR1x := Lib.hid ((hbq.block (w.heap.size + 1) (block_lt HR1.out)).trans HR1.out)
    have HR2x := Lib.hid ((hbq.block (w.heap.size + 1 + 1) (block_lt HR2.out)).trans HR2.out)
    have HSA2 := Lib.hid (HSA1.out.below hbq); have HSB2 := Lib.hid (HSB1.out.below hbq)
    clear hbq kc0 kc1 kc2 kf2 HMB HSA1 HSB1 HB1 HR0 HR1 HR2
    have kc0 := fun j => cell_of_row w2 w.heap.size j _ _ _ HR0x.out
    have kc1 := fun j => cell_of_row w2 (w.heap.size + 1) j _ _ _ HR1x.out
    have kc2 := fun j => cell_of_row w2 (w.heap.size + 1 + 1) j _ _ _ HR2x.out
    have kf2 := fun j => frozen_of_row w2 (w.heap.size + 1 + 1) j _ _ HR2x.out
    cases bb
    · go_wp2
      have hrow := ten_row HR2x.out (.int .i64 0) (.int .i64 0) (.slice none 0 0) (.int .i64 0) (.int .i64 0) (.int .i64 0) (.int .i64 0) (.int .i64 0) (.int .i64 0) (.int .i64 0)
      refine bodyPost_ret (v := .tuple #[.agg #[.int .i64 0, .int .i64 0, .slice none 0 0, .int .i64 0, .int .i64 0, .int .i64 0, .int .i64 0, .int .i64 0, .int .i64 0, .int .i64 0], .int .i64 2]) (by simp [results, Try.results17, go_sem, fun i => cell_of_row _ _ i _ _ _ hrow]) rfl ?_
      exact HWRG.out _ (fun h => by cases h.2.1) (ten_below HB2.out (by omega) _ _ _ _ _ _ _ _ _ _)
    · have hb6 : b ≤ 1000000 := HDA.out (by trivial)
      have hb7 : 0 ≤ b := by have := (HQA.out.1 (by trivial)).1; unfold Rep.days at this; simp at this; omega
      by_cases hq : a' = b + 1
      · have HQ := Lib.hid hq
        have hq1 : (a' != b + 1) = false := by rw [hq]; simp
        clear hq
        have HWA : Hid (WF la) := Lib.hid (ps_wf HSA2.out); have HWB : Hid (WF lb) := Lib.hid (ps_wf HSB2.out)
        have HFA : Hid (Rep.MayP a b la m [x0, x1, x2, x3, x4, x5]) := Lib.hid (HQA.out.1 (by trivial)); have HFB : Hid (Rep.MayP a' b' lb m' [y0, y1, y2, y3, y4, y5]) := Lib.hid (HQB.out.1 (by trivial))
        have HLA : Hid (la.length ≤ 400000) := Lib.hid (by have := (ps_len HSA2.out).1; omega); have HLB : Hid (nb = lb.length) := Lib.hid (ps_len HSB2.out).1
        have hnb2 : nb ≤ 400000 := hnb
        clear HQA HQB
        go_wp2_with fail
        refine (cloneP_any _ la (by have := HLA.out; omega) w2 (ls_of_ps HSA2.out).1).mono ?_
        rintro e w3 ⟨v0, rfl, hown, hbq⟩
        have HOW := Lib.hid hown
        have HB32 := Lib.hid hbq
        have HLT : Hid (w.heap.size + 1 + 1 < w2.heap.size) := Lib.hid (block_lt HR2x.out)
        have HP1 : Hid (∀ W, Below w2.heap.size w2 W → W.heap[w.heap.size]? = some (.cells #[.int .i64 a, .int .i64 b, .slice pa na ca, .int .i64 m, .int .i64 x0, .int .i64 x1, .int .i64 x2, .int .i64 x3, .int .i64 x4, .int .i64 x5] 43 (0, 0)) ∧ W.heap[w.heap.size + 1]? = some (.cells #[.int .i64 a', .int .i64 b', .slice pb nb cb, .int .i64 m', .int .i64 y0, .int .i64 y1, .int .i64 y2, .int .i64 y3, .int .i64 y4, .int .i64 y5] 43 (0, 0)) ∧ W.heap[w.heap.size + 1 + 1]? = some (.cells #[.int .i64 0, .int .i64 0, .slice none 0 0, .int .i64 0, .int .i64 0, .int .i64 0, .int .i64 0, .int .i64 0, .int .i64 0, .int .i64 0] 43 (0, 0))) := Lib.hid (fun W hW => ⟨(hW.block _ (block_lt HR0x.out)).trans HR0x.out, (hW.block _ (block_lt HR1x.out)).trans HR1x.out, (hW.block _ (block_lt HR2x.out)).trans HR2x.out⟩)
        clear kc0 kc1 kc2 kf2 hown hbq HR0x HR1x HR2x
        have kc1 := fun j => cell_of_row w3 (w.heap.size + 1) j _ _ _ (HP1.out _ HB32.out).2.1
        have HSTA : Hid (Rep.Str la) := Lib.hid (Rep.str_of_may HWA.out HFA.out)
        have HPA : Hid (la.Perm (la ++ lb.take 0)) := Lib.hid (by simp)
        go_wp2_with fail
        clear kc1
        go_loopw [6, 34] (fun v i wr => ∃ (k : Nat) (s : List Pst), k ≤ nb ∧ i = .int .i64 k ∧ wr.ownsRow w2.heap.size 68 10 v s.length (encL Pst.cells s) ∧ s.Perm (la ++ lb.take k) ∧ Rep.Str s ∧ Below w2.heap.size w2 wr) (fun _ i _ => nb - (intOf i).toNat)
        case atStart => exact ⟨0, la, Nat.zero_le _, rfl, HOW.out, HPA.out, HSTA.out, HB32.out⟩
        case round =>
          obtain ⟨k, s, hk, rfl, hown, hperm, hstr, hbw⟩ := hrel
          clear HOW HPA HSTA HB32
          have HO := Lib.hid hown; have HPM := Lib.hid hperm; have HST := Lib.hid hstr; have HBW := Lib.hid hbw
          have HWS : Hid (WF s) := Lib.hid (fun z hz => by
            rcases List.mem_append.1 (hperm.mem_iff.1 hz) with h | h
            · exact HWA.out z h
            · exact HWB.out z (List.mem_of_mem_take h))
          have HNS : Hid (s.length = la.length + k) := Lib.hid (by rw [hperm.length_eq, List.length_append, List.length_take, Nat.min_eq_left (by have := HLB.out; omega)])
          have hns : s.length ≤ 1000000 := by have := HNS.out; have := HLA.out; omega
          obtain ⟨pv, cv, hv⟩ := (LS.of_own hown Pst.cells_length (by decide)).shape
          clear hown hperm hstr
          rename Value => vv
          subst hv
          by_cases hlt : k < nb
          · obtain ⟨x, hx⟩ : ∃ x, lb[k]? = some x := ⟨_, List.getElem?_eq_getElem (by have := HLB.out; omega)⟩
            have HX := Lib.hid hx
            have HXW : Hid (x.wf) := Lib.hid (HWB.out x (List.mem_of_getElem? hx))
            obtain ⟨bq, o, rfl, hbl, hat⟩ := ps_at (HSB2.out.below hbw) hx
            unfold PAt at hat
            obtain ⟨c0, c1, c2, c3, c4, c5, c6, c7, c8, c9⟩ := hat
            have HBA := Lib.hid ((Below.refl wr.heap.size wr).alloc (Nat.le_refl _) (.cells #[.int .i64 x.d, .int .u64 x.t, .int .i64 x.s, .int .i64 x.k, .int .i64 x.a0, .int .i64 x.a1, .int .i64 x.a2, .int .i64 x.a3, .int .i64 x.a4, .int .i64 x.a5] 68 (0, 0)))
            have HRX := Lib.hid (new_row wr (.cells #[.int .i64 x.d, .int .u64 x.t, .int .i64 x.s, .int .i64 x.k, .int .i64 x.a0, .int .i64 x.a1, .int .i64 x.a2, .int .i64 x.a3, .int .i64 x.a4, .int .i64 x.a5] 68 (0, 0)) _ rfl)
            clear hx hbw
            go_upto_region 7 with fail
            have HB5 := Lib.hid (HBW.out.trans (HBA.out.mono HBW.out.size))
            have HO5 := Lib.hid (recs_below HO.out HBA.out)
            have HFR : Hid (∀ q, (Value.slice pv s.length cv).ownBlock = some q → q < wr.heap.size) := Lib.hid (fun q hq => (recs_base HO.out hq).2)
            have HSB5 := Lib.hid (HSB2.out.below HB5.out)
            generalize wr.alloc (.cells #[.int .i64 x.d, .int .u64 x.t, .int .i64 x.s, .int .i64 x.k, .int .i64 x.a0, .int .i64 x.a1, .int .i64 x.a2, .int .i64 x.a3, .int .i64 x.a4, .int .i64 x.a5] 68 (0, 0)) = w5 at *
            clear c0 c1 c2 c3 c4 c5 c6 c7 c8 c9 HBA HO
            have hcp := fun j => cell_of_row w5 wr.heap.size j _ _ _ HRX.out
            have HSRCH := Lib.hid (bsearch_any x s pv s.length cv w5 (LS.of_own HO5.out Pst.cells_length (by decide)) (HST.out.mono HWS.out HXW.out) hns)
            obtain ⟨ns, hnsl⟩ : ∃ ns, s.length = ns := ⟨_, rfl⟩
            rw [hnsl] at HSRCH HO5 HFR HNS hns ⊢
            have HNSL := Lib.hid hnsl
            clear hnsl
            generalize wr.heap.size = gp at *
            go_wp2_with fail
            refine HSRCH.out.mono ?_
            rintro e w6 ⟨kk, bv, rfl, hpos, hb6⟩
            have HPOS := Lib.hid hpos
            have HB6 := Lib.hid (HB5.out.trans (hb6.mono HB5.out.size))
            have HO6 := Lib.hid (recs_below HO5.out hb6)
            have HRX6 := Lib.hid ((hb6.block gp (block_lt HRX.out)).trans HRX.out)
            clear hcp hpos hb6 HSRCH HO5 HRX
            cases bv
            · have HKK : Hid (kk ≤ ns) := Lib.hid (by have := HPOS.out.le; have := HNSL.out; omega)
              have hcp := fun j => cell_of_row w6 gp j _ _ _ HRX6.out
              have hkk : (kk : Int) ≤ 1000000 := by have := HKK.out; omega
              go_wp2_with fail
              have HBA := Lib.hid ((Below.refl w6.heap.size w6).alloc (Nat.le_refl _) (.cells #[.int .i64 x.d, .int .u64 x.t, .int .i64 x.s, .int .i64 x.k, .int .i64 x.a0, .int .i64 x.a1, .int .i64 x.a2, .int .i64 x.a3, .int .i64 x.a4, .int .i64 x.a5] 68 (0, 0)))
              have HRN := Lib.hid (new_row w6 (.cells #[.int .i64 x.d, .int .u64 x.t, .int .i64 x.s, .int .i64 x.k, .int .i64 x.a0, .int .i64 x.a1, .int .i64 x.a2, .int .i64 x.a3, .int .i64 x.a4, .int .i64 x.a5] 68 (0, 0)) _ rfl)
              have HB7 := Lib.hid (HB6.out.trans (HBA.out.mono HB6.out.size))
              have HO7 := Lib.hid (recs_below HO6.out HBA.out)
              have HNE : Hid (∀ q, (Value.slice pv ns cv).ownBlock = some q → w6.heap.size ≠ q) := Lib.hid (fun q hq => by have := (recs_base HO6.out hq).2; omega)
              generalize w6.alloc (.cells #[.int .i64 x.d, .int .u64 x.t, .int .i64 x.s, .int .i64 x.k, .int .i64 x.a0, .int .i64 x.a1, .int .i64 x.a2, .int .i64 x.a3, .int .i64 x.a4, .int .i64 x.a5] 68 (0, 0)) = w7 at *
              generalize w6.heap.size = gx at *
              refine (insert_any x s w2.heap.size gx kk _ ns w7 HO7.out HRN.out HNE.out HB7.out.size HKK.out hns).mono ?_
              rintro e w8 ⟨v8, rfl, hown, hb8⟩
              have HO8 : Hid (w8.ownsRow w2.heap.size 68 10 v8 (s.take kk ++ x :: s.drop kk).length (encL Pst.cells (s.take kk ++ x :: s.drop kk))) := Lib.hid (by
                rw [(Rep.put_perm s x kk).length_eq, List.length_cons, HNSL.out]
                exact hown)
              have HB8 := Lib.hid (HB7.out.trans hb8)
              have HPM8 : Hid ((s.take kk ++ x :: s.drop kk).Perm (la ++ lb.take (k + 1))) := Lib.hid (by
                refine (Rep.put_perm s x kk).trans ?_
                rw [List.take_add_one, HX.out]
                refine (List.Perm.cons x HPM.out).trans ?_
                rw [← List.append_assoc]
                exact (List.perm_append_singleton x _).symm)
              have HST8 := Lib.hid (HST.out.put HWS.out HXW.out HPOS.out)
              clear hown hb8 hcp
              generalize s.take kk ++ x :: s.drop kk = s8 at *
              go_wp2
              go_roundw
              case rel => exact ⟨k + 1, s8, by omega, by go_num, HO8.out, HPM8.out, HST8.out, HB8.out⟩
              case measure => simp [intOf]; omega
            · have HNF : Hid (¬ Rep.FineP (la ++ lb)) := Lib.hid (Rep.not_fine HX.out HPM.out HWS.out HXW.out HPOS.out)
              have HRZ := Lib.hid (HP1.out _ HB6.out).2.2
              have kc2 := fun j => cell_of_row w6 (w.heap.size + 1 + 1) j _ _ _ HRZ.out
              have kf2 := fun j => frozen_of_row w6 (w.heap.size + 1 + 1) j _ _ HRZ.out
              go_wp2
              have hrow := ten_row HRZ.out (.int .i64 0) (.int .i64 0) (.slice none 0 0) (.int .i64 0) (.int .i64 0) (.int .i64 0) (.int .i64 0) (.int .i64 0) (.int .i64 0) (.int .i64 0)
              refine bodyPost_ret (v := .tuple #[.agg #[.int .i64 0, .int .i64 0, .slice none 0 0, .int .i64 0, .int .i64 0, .int .i64 0, .int .i64 0, .int .i64 0, .int .i64 0, .int .i64 0], .int .i64 2]) (by simp [results, Try.results17, go_sem, fun i => cell_of_row _ _ i _ _ _ hrow]) rfl ?_
              exact HWRG.out _ (fun h => HNF.out h.2.2.2) (ten_below (HB2.out.trans (HB6.out.mono HB2.out.size)) (by omega) _ _ _ _ _ _ _ _ _ _)
          · obtain rfl : k = nb := by omega
            have HPE : Hid ((la ++ lb).Perm s) := Lib.hid (by
              have := HPM.out
              rw [List.take_of_length_le (by have := HLB.out; omega)] at this
              exact this.symm)
            have HGOOD : Hid (Rep.Good b la a' lb true true) := Lib.hid ⟨rfl, rfl, HQ.out, Rep.fine_of_str (fun z hz => by
              rcases List.mem_append.1 hz with h | h
              · exact HFA.out.2.1.1 z h
              · exact HFB.out.2.1.1 z h) HPE.out HST.out HWS.out⟩
            have HSUM := Lib.hid (Post.sums_fine s)
            obtain ⟨z0, z1, z2, z3, z4, z5, hx⟩ := Post.six_of HSUM.out.1
            obtain ⟨M, hm⟩ : ∃ m, (Post.sums s).m = m := ⟨_, rfl⟩
            obtain ⟨ev, hev⟩ : ∃ m, (Post.sums s).e = m := ⟨_, rfl⟩
            have HSM : Hid (Post.sums s = ⟨ev, M, [z0, z1, z2, z3, z4, z5]⟩) := Lib.hid (by rw [← hx, ← hm, ← hev])
            clear hx hm hev HSUM
            have HR0w := Lib.hid (HP1.out _ HBW.out).1; have HR1w := Lib.hid (HP1.out _ HBW.out).2.1; have HR2w := Lib.hid (HP1.out _ HBW.out).2.2
            have HPS := Lib.hid (ps_of_ls (LS.of_own HO.out Pst.cells_length (by decide)) HWS.out)
            have kc0 := fun j => cell_of_row wr w.heap.size j _ _ _ HR0w.out
            have kc1 := fun j => cell_of_row wr (w.heap.size + 1) j _ _ _ HR1w.out
            by_cases he : ev = 0
            · subst he
              have HMD := Lib.hid (made_ok a b' s pv s.length cv wr HPS.out M z0 z1 z2 z3 z4 z5 HSM.out)
              go_wp2_with fail
              refine HMD.out.mono ?_
              rintro e w4 ⟨rfl, hb4⟩
              have HB4 := Lib.hid hb4
              have HRZ := Lib.hid (HP1.out _ (HBW.out.trans (hb4.mono HBW.out.size))).2.2
              clear hb4 kc0 kc1
              have kc2 := fun j => cell_of_row w4 (w.heap.size + 1 + 1) j _ _ _ HRZ.out
              have kf2 := fun j => frozen_of_row w4 (w.heap.size + 1 + 1) j _ _ HRZ.out
              go_wp2
              have hrow := ten_row HRZ.out (.int .i64 a) (.int .i64 b') (.slice pv s.length cv) (.int .i64 M) (.int .i64 z0) (.int .i64 z1) (.int .i64 z2) (.int .i64 z3) (.int .i64 z4) (.int .i64 z5)
              refine bodyPost_ret (v := .tuple #[.agg #[.int .i64 a, .int .i64 b', .slice pv s.length cv, .int .i64 M, .int .i64 z0, .int .i64 z1, .int .i64 z2, .int .i64 z3, .int .i64 z4, .int .i64 z5], .int .i64 0]) (by simp [results, Try.results17, go_sem, fun i => cell_of_row _ _ i _ _ _ hrow]) rfl ?_
              exact HOK.out _ _ s M z0 z1 z2 z3 z4 z5 HGOOD.out HSM.out HPE.out HST.out (Mine.of_own (own_only HO.out HB4.out (ten_only (.refl _ _) _ _ _ _ _ _ _ _ _ _) HLT.out HB2.out.size) Pst.cells_length (by decide)) (ten_below (HB2.out.trans ((HBW.out.trans (HB4.out.mono HBW.out.size)).mono HB2.out.size)) (by omega) _ _ _ _ _ _ _ _ _ _)
            · have HMD := Lib.hid (made_bad a b' s pv s.length cv wr HPS.out ev M z0 z1 z2 z3 z4 z5 HSM.out he)
              go_wp2_with fail
              refine HMD.out.mono ?_
              rintro e w4 ⟨rfl, hb4⟩
              have HB4 := Lib.hid hb4
              have HRZ := Lib.hid (HP1.out _ (HBW.out.trans (hb4.mono HBW.out.size))).2.2
              clear hb4 kc0 kc1
              have kc2 := fun j => cell_of_row w4 (w.heap.size + 1 + 1) j _ _ _ HRZ.out
              have kf2 := fun j => frozen_of_row w4 (w.heap.size + 1 + 1) j _ _ HRZ.out
              go_wp2
              have hrow := ten_row HRZ.out (.int .i64 0) (.int .i64 0) (.slice none 0 0) (.int .i64 0) (.int .i64 0) (.int .i64 0) (.int .i64 0) (.int .i64 0) (.int .i64 0) (.int .i64 0)
              refine bodyPost_ret (v := .tuple #[.agg #[.int .i64 0, .int .i64 0, .slice none 0 0, .int .i64 0, .int .i64 0, .int .i64 0, .int .i64 0, .int .i64 0, .int .i64 0, .int .i64 0], .int .i64 ev]) (by simp [results, Try.results17, go_sem, fun i => cell_of_row _ _ i _ _ _ hrow]) rfl ?_
              exact HER.out _ s ev M z0 z1 z2 z3 z4 z5 HGOOD.out HSM.out HPE.out HST.out he (ten_below (HB2.out.trans ((HBW.out.trans (HB4.out.mono HBW.out.size)).mono HB2.out.size)) (by omega) _ _ _ _ _ _ _ _ _ _)
      · have HQ := Lib.hid hq
        have hq1 : (a' != b + 1) = true := bne_iff_ne.2 hq
        clear hq
        go_wp2
        have hrow := ten_row HR2x.out (.int .i64 0) (.int .i64 0) (.slice none 0 0) (.int .i64 0) (.int .i64 0) (.int .i64 0) (.int .i64 0) (.int .i64 0) (.int .i64 0) (.int .i64 0)
        refine bodyPost_ret (v := .tuple #[.agg #[.int .i64 0, .int .i64 0, .slice none 0 0, .int .i64 0, .int .i64 0, .int .i64 0, .int .i64 0, .int .i64 0, .int .i64 0, .int .i64 0], .int .i64 2]) (by simp [results, Try.results17, go_sem, fun i => cell_of_row _ _ i _ _ _ hrow]) rfl ?_
        exact HWRG.out _ (fun h => HQ.out h.2.2.1) (ten_below HB2.out (by omega) _ _ _ _ _ _ _ _ _ _)
end Go.Proofs.Ytajpggnmhkpbkaa
