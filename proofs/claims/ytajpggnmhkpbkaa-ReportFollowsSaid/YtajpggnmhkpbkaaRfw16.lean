/- Contract: slices.symMergeCmpFunc at postings: one element put into the other run. -/
import Derived.Test.YtajpggnmhkpbkaaRfw15
import Derived.Deep.RegionHeld3
import Derived.Deep.DeepCutAuto
import Derived.Laws.BitsAllLaws

set_option linter.unusedVariables false
set_option linter.unusedSimpArgs false
namespace Go.Proofs.Ytajpggnmhkpbkaa
open Go.RowKit
attribute [local go_sem ↓] post_execLoad post_execStore

attribute [local go_sem] post_load post_store loL_drew okL_drew there_sc World.there_drew

theorem two_at {P : List Pst} {A B C : List Pst} {d e : Pst} {g q1 q : Nat} (h1 : A.length = q1) (h2 : A.length + 1 + B.length = q) (W : World) (h : RowL Pst.cells 10 W g (A ++ d :: (B ++ e :: C))) :
    loL 10 W g (q1 * 10) = d.cells ∧ okL 10 W g (q1 * 10) ∧ W.there g (q1 * 10) 10 ∧ loL 10 W g (q * 10) = e.cells ∧ okL 10 W g (q * 10) ∧ W.there g (q * 10) 10 := by
  have hat := at_mid A B C d e
  obtain ⟨f1, f2, f3⟩ := row_at h hat.1
  obtain ⟨f4, f5, f6⟩ := row_at h hat.2
  rw [h1] at f1 f2 f3
  rw [h2] at f4 f5 f6
  exact ⟨f1, f2, f3, f4, f5, f6⟩

set_option maxRecDepth 100000 in
set_option maxHeartbeats 1000000 in
theorem symMerge_one (P y Q : List Pst) (e : Pst) (hwf : WF (e :: y)) (hy : 0 < y.length) (hyu : Srt.Up keyP y) (g cap : Nat) (w : World) (hcap : (P ++ [e] ++ y ++ Q).length ≤ cap) (hmax : (P ++ [e] ++ y ++ Q).length ≤ 1099511627776)
    (h : RowL Pst.cells 10 w g (P ++ [e] ++ y ++ Q)) :
    Calls Try.prog 88 #[.slice (some ⟨g, 0, none⟩) (P ++ [e] ++ y ++ Q).length cap, .int .i64 (P.length : Int), .int .i64 ((P ++ [e]).length : Int), .int .i64 ((P ++ [e] ++ y).length : Int), .func (.func 61) #[] #[]] w
      fun v w' => v = .returned (.tuple #[]) ∧ ∃ s', Srt.Mix keyP ([e] ++ y) s' ∧ Srt.Up keyP s' ∧ RowL Pst.cells 10 w' g (P ++ s' ++ Q) ∧ Only g w w' := by
  generalize hN : (P ++ [e] ++ y ++ Q).length = N at *
  generalize ha : P.length = a at *
  generalize hm : (P ++ [e]).length = m at *
  generalize hb : (P ++ [e] ++ y).length = b at *
  have e1 : m = a + 1 := by rw [← hm, ← ha]; simp
  have e2 : b = m + y.length := by rw [← hb, ← hm]; simp; omega
  have e3 : b ≤ N := by rw [← hb, ← hN]; simp
  generalize hn : y.length = n at *
  have HH := Lib.hid h; have HN := Lib.hid hN; have HA := Lib.hid ha; have HSL := Lib.hid hn; have HE1 := Lib.hid e1; have HE2 := Lib.hid e2; have HWF := Lib.hid hwf; have HYU := Lib.hid hyu
  have hs1 : IntKind.i64.wrap ((m : Int) - (a : Int)) = 1 := by rw [IntKind.wrap_i64]; omega
  have ham : a < m := by omega
  have hmb : m < b := by omega
  clear h hN ha hn hm hb hwf hyu e1 e2
  go_enter Try.func88, Try.ntmps88
  go_wp2
  go_loopw [10, 11] (fun i j wr => ∃ (i' j' : Nat), i = .int .i64 ((m + i' : Nat) : Int) ∧ j = .int .i64 ((m + j' : Nat) : Int) ∧ i' ≤ j' ∧ j' ≤ n ∧ (∀ c z, c < i' → y[c]? = some z → keyP z < keyP e) ∧ (∀ c z, j' ≤ c → y[c]? = some z → keyP e ≤ keyP z) ∧ RowL Pst.cells 10 wr g (P ++ [e] ++ y ++ Q) ∧ Only g w wr) (fun i j _ => (intOf j - intOf i).toNat)
  case atStart => exact ⟨0, n, by simp, by rw [HE2.out], Nat.zero_le _, Nat.le_refl _, fun c z hc => absurd hc (Nat.not_lt_zero _), fun c z hc hz => by have := (List.getElem?_eq_some_iff.1 hz).1; have := HSL.out; omega, HH.out, Only.refl _ _⟩
  case round =>
    obtain ⟨i', j', rfl, rfl, hij, hjn, hlo, hhi, hrow, hon⟩ := hrel
    have HLO := Lib.hid hlo; have HHI := Lib.hid hhi; have HR := Lib.hid hrow; have HO := Lib.hid hon
    clear hlo hhi hrow hon
    obtain ⟨p, hp⟩ : ∃ p, p = m + i' := ⟨_, rfl⟩
    obtain ⟨q, hq⟩ : ∃ q, q = m + j' := ⟨_, rfl⟩
    rw [← hp, ← hq]
    have HP := Lib.hid hp; have HQ := Lib.hid hq
    by_cases hlt : p < q
    · have hqb : q ≤ b := by have := HE2.out; omega
      obtain ⟨c, hc⟩ : ∃ c, c = (p + q) / 2 := ⟨_, rfl⟩
      obtain ⟨sm, hsm⟩ : ∃ sm, sm = p + q := ⟨_, rfl⟩
      have hs2 : IntKind.i64.wrap ((p : Int) + (q : Int)) = (sm : Int) := by rw [IntKind.wrap_i64]; omega
      have hs3 : IntKind.u64.wrap (sm : Int) = (sm : Int) := by rw [IntKind.wrap_u64]; omega
      have hs4 : (sm : Int) / 2 = (c : Int) := by omega
      have hcN : (c : Int) < (N : Int) := by omega
      have hc0 : (0 : Int) ≤ (c : Int) := by omega
      have hcb : (c : Int) ≤ 1099511627776 := by omega
      have haN : (a : Int) < (N : Int) := by omega
      have ha0 : (0 : Int) ≤ (a : Int) := by omega
      have hpc : p ≤ c := by omega
      have hcq : c < q := by omega
      obtain ⟨f, hf⟩ : ∃ f, y[c - m]? = some f := ⟨_, List.getElem?_eq_getElem (by have := HSL.out; omega)⟩
      have hyp : y = y.take (c - m) ++ f :: y.drop (c - m + 1) := by
        obtain ⟨hl, he⟩ := List.getElem?_eq_some_iff.1 hf
        rw [← he, ← List.drop_eq_getElem_cons hl, List.take_append_drop]
      have hL : P ++ [e] ++ y ++ Q = P ++ e :: (y.take (c - m) ++ f :: (y.drop (c - m + 1) ++ Q)) := by
        conv => lhs; rw [hyp]
        simp
      have HTWO := Lib.hid (fun W h => two_at (P := P) (A := P) (B := y.take (c - m)) (C := y.drop (c - m + 1) ++ Q) (d := e) (e := f) (g := g) (q1 := a) (q := c) HA.out (by rw [HA.out, List.length_take]; have := HSL.out; have := HE1.out; omega) W h)
      have hR3 := HR.out
      rw [hL] at hR3
      have hgw : g < wr.heap.size := okL_block (HTWO.out wr hR3).2.1 (by decide)
      obtain ⟨f1, f2, f3, f4, f5, f6⟩ := HTWO.out wr hR3
      have HR3 := Lib.hid hR3
      have HOC := Lib.hid (fun W => order_cells f e W)
      have hew : e.wf := HWF.out e (by simp)
      have hfw : f.wf := HWF.out f (by simp; right; exact List.mem_of_getElem? hf)
      have HKEY := Lib.hid (ord_key hfw hew)
      have HFAT := Lib.hid hf
      have HL := Lib.hid hL
      have HC := Lib.hid hc; have HSM := Lib.hid hsm
      clear hR3 hL hyp hf hew hfw
      generalize hcd : e.cells = ce at *
      generalize hce : f.cells = cf at *
      generalize ordI f e = res at *
      have HCD := Lib.hid hcd; have HCE := Lib.hid hce
      clear hcd hce
      clear hp hq hsm hc
      by_cases hres : res < 0
      all_goals
        go_wp2
        go_region_held3 (fun w' => loL 10 w' g (a * 10) = ce ∧ okL 10 w' g (a * 10) ∧ loL 10 w' g (c * 10) = cf ∧ okL 10 w' g (c * 10)) (first | exact ⟨f1, f2, f4, f5⟩ | exact ⟨x1, x2, x4, x5⟩) ((go_at_call 61; refine (HOC.out _).mono ?_; rintro e w1 ⟨rfl, hb1⟩; have hb2 := (Below.refl wr.heap.size wr).drew.trans hb1; obtain ⟨x1, x2, x3, x4, x5, x6⟩ := (HTWO.out _ (HR3.out.below hgw hb2))))
        have HB2 := Lib.hid hb2
        clear hb1 hb2 f1 f2 f3 f4 f5 f6 x1 x2 x3 x4 x5 x6
      · obtain ⟨c1, hc1⟩ : ∃ c1, c1 = c + 1 := ⟨_, rfl⟩
        have hs5 : IntKind.i64.wrap ((c : Int) + 1) = (c1 : Int) := by rw [IntKind.wrap_i64]; omega
        have HC1 := Lib.hid hc1; clear hc1
        go_wp2
        go_roundw
        case rel =>
          have := HC1.out; have hq := HQ.out; have hp := HP.out
          refine ⟨c1 - m, j', by congr 2; omega, by rw [hq], by omega, hjn, ?_, HHI.out, HR.out.below hgw HB2.out, HO.out.trans (.of_below HB2.out)⟩
          intro k z hk hz
          have h1 := HYU.out.at (i := k) (j := c - m) (by omega) hz HFAT.out
          have h2 := HKEY.out.1 hres
          omega
        case measure => have := HC1.out; simp [intOf]; omega
      · go_wp2
        go_roundw
        case rel =>
          have hp := HP.out; have hq := HQ.out
          refine ⟨i', c - m, by rw [hp], by congr 2; omega, by omega, by omega, HLO.out, ?_, HR.out.below hgw HB2.out, HO.out.trans (.of_below HB2.out)⟩
          intro k z hk hz
          have h1 := HYU.out.at (i := c - m) (j := k) (by omega) HFAT.out hz
          have h2 := HKEY.out
          omega
        case measure => simp [intOf]; omega
    · obtain rfl : i' = j' := by omega
      obtain rfl : p = q := by omega
      obtain ⟨d, hd⟩ : ∃ d, d = a + i' := ⟨_, rfl⟩
      have hs2 : IntKind.i64.wrap ((p : Int) - 1) = (d : Int) := by rw [IntKind.wrap_i64]; have := HE1.out; have := HE2.out; omega
      have HD := Lib.hid hd
      have hdN : d < N := by have := HE1.out; have := HE2.out; omega
      have had : a ≤ d := by omega
      clear hd hp hq
      go_wp2
      go_loopw [13] (fun k wq => ∃ k' : Nat, k = .int .i64 ((a + k' : Nat) : Int) ∧ k' ≤ i' ∧ RowL Pst.cells 10 wq g (P ++ y.take k' ++ e :: y.drop k' ++ Q) ∧ Only g w wq) (fun k _ => ((d : Int) - intOf k).toNat)
      case atStart => exact ⟨0, by simp, Nat.zero_le _, by simpa using HR.out, HO.out⟩
      case round =>
        obtain ⟨k', rfl, hk, hrow, hon⟩ := hrel
        have HR2 := Lib.hid hrow; have HO2 := Lib.hid hon
        clear hrow hon
        obtain ⟨q, hq⟩ : ∃ q, q = a + k' := ⟨_, rfl⟩
        rw [← hq]
        have HQ2 := Lib.hid hq
        by_cases hlt2 : q < d
        · have hki : k' < i' := by have := HD.out; omega
          obtain ⟨f, r, hd, ht, hd', -⟩ := drop_cons (l := y) (k := k') (by have := HSL.out; omega)
          have hL : P ++ y.take k' ++ e :: y.drop k' ++ Q = (P ++ y.take k') ++ e :: ([] ++ f :: (r ++ Q)) := by rw [hd]; simp
          have hla : (P ++ y.take k').length = q := by rw [List.length_append, HA.out, List.length_take]; have := HSL.out; omega
          obtain ⟨q1, hq1⟩ : ∃ q1, q1 = q + 1 := ⟨_, rfl⟩
          have hlb : (P ++ y.take k').length + 1 + ([] : List Pst).length = q1 := by rw [hla, hq1]; rfl
          have hR3 := HR2.out
          rw [hL] at hR3
          obtain ⟨f1, f2, f3, f4, f5, f6⟩ := two_at (P := P) hla hlb wr hR3
          have HR3 := Lib.hid hR3; have HLA := Lib.hid hla; have HLB := Lib.hid hlb
          have hs3 : IntKind.i64.wrap ((q : Int) + 1) = (q1 : Int) := by rw [IntKind.wrap_i64]; omega
          have hqN : (q : Int) < (N : Int) := by omega
          have hq1N : (q1 : Int) < (N : Int) := by omega
          have hq0 : (0 : Int) ≤ (q : Int) := by omega
          have hq10 : (0 : Int) ≤ (q1 : Int) := by omega
          have HQ1 := Lib.hid hq1
          have HDD := Lib.hid hd; have HT := Lib.hid ht; have HDP := Lib.hid hd'
          have hl1 := e.cells_length
          have hl2 := f.cells_length
          have ho1 : e.cells.all (·.oneCell') = true := List.all_eq_true.2 (Pst.cells_one e)
          have ho2 : f.cells.all (·.oneCell') = true := List.all_eq_true.2 (Pst.cells_one f)
          clear hR3 hL hla hlb hq1 hd ht hd' hq
          generalize hcd : e.cells = ce at *
          generalize hce : f.cells = cf at *
          have HCD := Lib.hid hcd; have HCE := Lib.hid hce
          clear hcd hce
          go_wp2
          go_region
          go_wp2
          go_roundw
          case rel =>
            have hq := HQ2.out; have hq1 := HQ1.out
            refine ⟨k' + 1, by congr 2; omega, by omega, ?_, (HO2.out.drew.setCells _ _).setCells _ _⟩
            have h1 := RowL.swap (w := wr.drew) Pst.cells_length HR3.out
            rw [HLB.out, HLA.out, HCD.out, HCE.out] at h1
            rw [HDP.out, HT.out]
            simpa using h1
          case measure => have := HQ1.out; simp [intOf]; omega
        · have hki : k' = i' := by have := HD.out; omega
          subst hki
          clear hq
          go_wp2
          refine bodyPost_ret (results_none rfl _ _ _) rfl ?_
          refine ⟨rfl, y.take k' ++ e :: y.drop k', ?_, ?_, by simpa using HR2.out, HO2.out⟩
          · have h1 := Srt.behind_mix (key := keyP) (u := y.take k') (v := y.drop k') (e := e) (by
              intro z hz
              obtain ⟨c, hc⟩ := Srt.mem_at hz
              have hl := (List.getElem?_eq_some_iff.1 hc).1
              rw [List.length_take] at hl
              rw [List.getElem?_take_of_lt (by omega)] at hc
              exact HLO.out c z (by omega) hc)
            simpa using h1
          · refine Srt.behind_up (by rw [List.take_append_drop]; exact HYU.out) ?_ ?_
            · intro z hz
              obtain ⟨c, hc⟩ := Srt.mem_at hz
              have hl := (List.getElem?_eq_some_iff.1 hc).1
              rw [List.length_take] at hl
              rw [List.getElem?_take_of_lt (by omega)] at hc
              exact HLO.out c z (by omega) hc
            · intro z hz
              rw [List.getElem?_drop] at hz
              exact HHI.out _ z (by omega) hz
end Go.Proofs.Ytajpggnmhkpbkaa
