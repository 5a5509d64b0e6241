/- Contract: slices.symMergeCmpFunc at postings: one element behind a run put into it. -/
import Derived.Test.YtajpggnmhkpbkaaRfw16

set_option linter.unusedVariables false
set_option linter.unusedSimpArgs false
namespace Go.Proofs.Ytajpggnmhkpbkaa
open Go.RowKit
attribute [local go_sem ↓] post_execLoad post_execStore

attribute [local go_sem] post_load post_store loL_drew okL_drew there_sc World.there_drew

set_option maxRecDepth 100000 in
set_option maxHeartbeats 1000000 in
theorem symMerge_last (P x Q : List Pst) (e : Pst) (hwf : WF (e :: x)) (hx : 1 < x.length) (hxu : Srt.Up keyP x) (g cap : Nat) (w : World) (hcap : (P ++ x ++ [e] ++ Q).length ≤ cap) (hmax : (P ++ x ++ [e] ++ Q).length ≤ 1099511627776)
    (h : RowL Pst.cells 10 w g (P ++ x ++ [e] ++ Q)) :
    Calls Try.prog 88 #[.slice (some ⟨g, 0, none⟩) (P ++ x ++ [e] ++ Q).length cap, .int .i64 (P.length : Int), .int .i64 ((P ++ x).length : Int), .int .i64 ((P ++ x ++ [e]).length : Int), .func (.func 61) #[] #[]] w
      fun v w' => v = .returned (.tuple #[]) ∧ ∃ s', Srt.Mix keyP (x ++ [e]) s' ∧ Srt.Up keyP s' ∧ RowL Pst.cells 10 w' g (P ++ s' ++ Q) ∧ Only g w w' := by
  generalize hN : (P ++ x ++ [e] ++ Q).length = N at *
  generalize ha : P.length = a at *
  generalize hm : (P ++ x).length = m at *
  generalize hb : (P ++ x ++ [e]).length = b at *
  have e1 : m = a + x.length := by rw [← hm, ← ha]; simp
  have e2 : b = m + 1 := by rw [← hb, ← hm]; simp; omega
  have e3 : b ≤ N := by rw [← hb, ← hN]; simp
  generalize hn : x.length = n at *
  have HH := Lib.hid h; have HN := Lib.hid hN; have HA := Lib.hid ha; have HSL := Lib.hid hn; have HE1 := Lib.hid e1; have HE2 := Lib.hid e2; have HWF := Lib.hid hwf; have HXU := Lib.hid hxu
  obtain ⟨nn, hnn⟩ : ∃ nn, nn = n := ⟨_, rfl⟩
  have hs1 : IntKind.i64.wrap ((m : Int) - (a : Int)) = (nn : Int) := by rw [IntKind.wrap_i64]; omega
  have hs1' : IntKind.i64.wrap ((b : Int) - (m : Int)) = 1 := by rw [IntKind.wrap_i64]; omega
  have hne : ((nn : Int) == 1) = false := by simp; omega
  have ham : a < m := by omega
  have hmb : m < b := by omega
  clear h hN ha hn hm hb hwf hxu e1 e2 hnn
  go_enter Try.func88, Try.ntmps88
  go_wp2
  go_loopw [14, 15] (fun i j wr => ∃ (i' j' : Nat), i = .int .i64 ((a + i' : Nat) : Int) ∧ j = .int .i64 ((a + j' : Nat) : Int) ∧ i' ≤ j' ∧ j' ≤ n ∧ (∀ c z, c < i' → x[c]? = some z → keyP z ≤ keyP e) ∧ (∀ c z, j' ≤ c → x[c]? = some z → keyP e < keyP z) ∧ RowL Pst.cells 10 wr g (P ++ x ++ [e] ++ Q) ∧ Only g w wr) (fun i j _ => (intOf j - intOf i).toNat)
  case atStart => exact ⟨0, n, by simp, by rw [HE1.out], Nat.zero_le _, Nat.le_refl _, fun c z hc => absurd hc (Nat.not_lt_zero _), fun c z hc hz => by have := (List.getElem?_eq_some_iff.1 hz).1; have := HSL.out; omega, HH.out, Only.refl _ _⟩
  case round =>
    obtain ⟨i', j', rfl, rfl, hij, hjn, hlo, hhi, hrow, hon⟩ := hrel
    have HLO := Lib.hid hlo; have HHI := Lib.hid hhi; have HR := Lib.hid hrow; have HO := Lib.hid hon
    clear hlo hhi hrow hon
    obtain ⟨p, hp⟩ : ∃ p, p = a + i' := ⟨_, rfl⟩
    obtain ⟨q, hq⟩ : ∃ q, q = a + j' := ⟨_, rfl⟩
    rw [← hp, ← hq]
    have HP := Lib.hid hp; have HQ := Lib.hid hq
    have hqb : q ≤ m := by have := HE1.out; omega
    by_cases hlt : p < q
    · obtain ⟨c, hc⟩ : ∃ c, c = (p + q) / 2 := ⟨_, rfl⟩
      obtain ⟨sm, hsm⟩ : ∃ sm, sm = p + q := ⟨_, rfl⟩
      have hs2 : IntKind.i64.wrap ((p : Int) + (q : Int)) = (sm : Int) := by rw [IntKind.wrap_i64]; omega
      have hs3 : IntKind.u64.wrap (sm : Int) = (sm : Int) := by rw [IntKind.wrap_u64]; omega
      have hs4 : (sm : Int) / 2 = (c : Int) := by omega
      have hcN : (c : Int) < (N : Int) := by omega
      have hc0 : (0 : Int) ≤ (c : Int) := by omega
      have hcb : (c : Int) ≤ 1099511627776 := by omega
      have hmN : (m : Int) < (N : Int) := by omega
      have hm0 : (0 : Int) ≤ (m : Int) := by omega
      have hpc : p ≤ c := by omega
      have hcq : c < q := by omega
      obtain ⟨f, hf⟩ : ∃ f, x[c - a]? = some f := ⟨_, List.getElem?_eq_getElem (by have := HSL.out; omega)⟩
      have hyp : x = x.take (c - a) ++ f :: x.drop (c - a + 1) := by
        obtain ⟨hl, he⟩ := List.getElem?_eq_some_iff.1 hf
        rw [← he, ← List.drop_eq_getElem_cons hl, List.take_append_drop]
      have hL : P ++ x ++ [e] ++ Q = (P ++ x.take (c - a)) ++ f :: (x.drop (c - a + 1) ++ e :: Q) := by
        conv => lhs; rw [hyp]
        simp
      have hla : (P ++ x.take (c - a)).length = c := by rw [List.length_append, HA.out, List.length_take]; have := HSL.out; omega
      have HTWO := Lib.hid (fun W h => two_at (P := P) (A := P ++ x.take (c - a)) (B := x.drop (c - a + 1)) (C := Q) (d := f) (e := e) (g := g) (q1 := c) (q := m) hla (by rw [hla, List.length_drop]; have := HSL.out; have := HE1.out; omega) W h)
      have hR3 := HR.out
      rw [hL] at hR3
      have hgw : g < wr.heap.size := okL_block (HTWO.out wr hR3).2.1 (by decide)
      obtain ⟨f1, f2, f3, f4, f5, f6⟩ := HTWO.out wr hR3
      have HR3 := Lib.hid hR3
      have HOC := Lib.hid (fun W => order_cells e f W)
      have hew : e.wf := HWF.out e (by simp)
      have hfw : f.wf := HWF.out f (by simp; right; exact List.mem_of_getElem? hf)
      have HKEY := Lib.hid (ord_key hew hfw)
      have HFAT := Lib.hid hf
      have HL := Lib.hid hL
      have HC := Lib.hid hc; have HSM := Lib.hid hsm
      clear hR3 hL hyp hf hew hfw hla
      generalize hcd : e.cells = ce at *
      generalize hce : f.cells = cf at *
      generalize ordI e f = res at *
      have HCD := Lib.hid hcd; have HCE := Lib.hid hce
      clear hcd hce
      clear hp hq hsm hc
      obtain ⟨bb, hbb⟩ : ∃ bb, decide (res < 0) = bb := ⟨_, rfl⟩
      have HBB := Lib.hid hbb
      cases bb
      rotate_left
      all_goals
        go_wp2
        go_region_held3 (fun w' => loL 10 w' g (c * 10) = cf ∧ okL 10 w' g (c * 10) ∧ loL 10 w' g (m * 10) = ce ∧ okL 10 w' g (m * 10)) (first | exact ⟨f1, f2, f4, f5⟩ | exact ⟨x1, x2, x4, x5⟩) ((go_at_call 61; refine (HOC.out _).mono ?_; rintro e w1 ⟨rfl, hb1⟩; have hb2 := (Below.refl wr.heap.size wr).drew.trans hb1; obtain ⟨x1, x2, x3, x4, x5, x6⟩ := (HTWO.out _ (HR3.out.below hgw hb2))))
        have HB2 := Lib.hid hb2
        clear hb1 hb2 f1 f2 f3 f4 f5 f6 x1 x2 x3 x4 x5 x6
      · go_wp2
        have hp := HP.out; have hq := HQ.out
        refine ⟨⟨i', c - a, by rw [hp], by congr 2; omega, by omega, by omega, HLO.out, ?_, HR.out.below hgw HB2.out, HO.out.trans (.of_below HB2.out)⟩, by simp [intOf]; omega⟩
        intro k z hk hz
        have h1 := HXU.out.at (i := c - a) (j := k) (by omega) HFAT.out hz
        have h2 := HKEY.out.1 (of_decide_eq_true HBB.out)
        omega
      · obtain ⟨c1, hc1⟩ : ∃ c1, c1 = c + 1 := ⟨_, rfl⟩
        have hs5 : IntKind.i64.wrap ((c : Int) + 1) = (c1 : Int) := by rw [IntKind.wrap_i64]; omega
        have HC1 := Lib.hid hc1; clear hc1
        go_wp2
        go_roundw
        case rel =>
          have := HC1.out; have hq := HQ.out; have hp := HP.out
          refine ⟨c1 - a, j', by congr 2; omega, by rw [hq], by omega, hjn, ?_, HHI.out, HR.out.below hgw HB2.out, HO.out.trans (.of_below HB2.out)⟩
          intro k z hk hz
          have h1 := HXU.out.at (i := k) (j := c - a) (by omega) hz HFAT.out
          have h2 := HKEY.out
          have h3 := of_decide_eq_false HBB.out
          omega
        case measure => have := HC1.out; simp [intOf]; omega
    · obtain rfl : i' = j' := by omega
      obtain rfl : p = q := by omega
      clear hp hq
      go_wp2
      go_loopw [17] (fun k wq => ∃ k' : Nat, k = .int .i64 ((a + k' : Nat) : Int) ∧ i' ≤ k' ∧ k' ≤ n ∧ RowL Pst.cells 10 wq g (P ++ x.take k' ++ e :: x.drop k' ++ Q) ∧ Only g w wq) (fun k _ => (intOf k - (p : Int)).toNat)
      case atStart => exact ⟨n, by rw [HE1.out], by omega, Nat.le_refl _, by rw [List.take_of_length_le (by rw [HSL.out]; exact Nat.le_refl _), List.drop_eq_nil_of_le (by rw [HSL.out]; exact Nat.le_refl _)]; simpa using HR.out, HO.out⟩
      case round =>
        obtain ⟨k', rfl, hk, hkn, hrow, hon⟩ := hrel
        have HR2 := Lib.hid hrow; have HO2 := Lib.hid hon
        clear hrow hon
        obtain ⟨q, hq⟩ : ∃ q, q = a + k' := ⟨_, rfl⟩
        rw [← hq]
        have HQ2 := Lib.hid hq
        have hqm : q ≤ m := by have := HE1.out; omega
        by_cases hlt2 : p < q
        · obtain ⟨k, rfl⟩ : ∃ k, k' = k + 1 := ⟨k' - 1, by have := HP.out; omega⟩
          obtain ⟨f, r, hd, ht, hd', -⟩ := drop_cons (l := x) (k := k) (by have := HSL.out; omega)
          have hL : P ++ x.take (k + 1) ++ e :: x.drop (k + 1) ++ Q = (P ++ x.take k) ++ f :: ([] ++ e :: (r ++ Q)) := by rw [hd', ht]; simp
          obtain ⟨q1, hq1⟩ : ∃ q1, q1 = a + k := ⟨_, rfl⟩
          have hla : (P ++ x.take k).length = q1 := by rw [List.length_append, HA.out, List.length_take]; have := HSL.out; omega
          have hlb : (P ++ x.take k).length + 1 + ([] : List Pst).length = q := by rw [hla, hq1, hq]; rfl
          have hR3 := HR2.out
          rw [hL] at hR3
          obtain ⟨f1, f2, f3, f4, f5, f6⟩ := two_at (P := P) hla hlb wr hR3
          have HR3 := Lib.hid hR3; have HLA := Lib.hid hla; have HLB := Lib.hid hlb
          have hs3 : IntKind.i64.wrap ((q : Int) - 1) = (q1 : Int) := by rw [IntKind.wrap_i64]; omega
          have hqN : (q : Int) < (N : Int) := by omega
          have hq1N : (q1 : Int) < (N : Int) := by omega
          have hq0 : (0 : Int) ≤ (q : Int) := by omega
          have hq10 : (0 : Int) ≤ (q1 : Int) := by omega
          have HQ1 := Lib.hid hq1
          have HDD := Lib.hid hd; have HT := Lib.hid ht; have HDP := Lib.hid hd'
          have hl1 := e.cells_length
          have hl2 := f.cells_length
          have ho1 : e.cells.all (·.oneCell') = true := List.all_eq_true.2 (Pst.cells_one e)
          have ho2 : f.cells.all (·.oneCell') = true := List.all_eq_true.2 (Pst.cells_one f)
          clear hR3 hL hla hlb hq1 hd ht hd' hq
          generalize hcd : e.cells = ce at *
          generalize hce : f.cells = cf at *
          have HCD := Lib.hid hcd; have HCE := Lib.hid hce
          clear hcd hce
          go_wp2
          go_region
          go_wp2
          go_roundw
          case rel =>
            have hq := HQ2.out; have hq1 := HQ1.out; have hp := HP.out
            refine ⟨k, by rw [hq1], by omega, by omega, ?_, (HO2.out.drew.setCells _ _).setCells _ _⟩
            have h1 := RowL.swap' (w := wr.drew) Pst.cells_length HR3.out
            rw [HLB.out, HLA.out, HCD.out, HCE.out] at h1
            rw [HDD.out]
            simpa using h1
          case measure => have := HQ1.out; have := HQ2.out; simp [intOf]; omega
        · have hki : k' = i' := by have := HP.out; omega
          subst hki
          clear hq
          go_wp2
          refine bodyPost_ret (results_none rfl _ _ _) rfl ?_
          have hv : ∀ z ∈ x.drop k', keyP e < keyP z := by
            intro z hz
            obtain ⟨c, hc⟩ := Srt.mem_at hz
            rw [List.getElem?_drop] at hc
            exact HHI.out _ z (by omega) hc
          refine ⟨rfl, x.take k' ++ e :: x.drop k', ?_, ?_, by simpa using HR2.out, HO2.out⟩
          · have h1 := Srt.insert_mix (key := keyP) (u := x.take k') (v := x.drop k') (e := e) hv
            rw [List.take_append_drop] at h1
            exact h1
          · refine Srt.insert_up (by rw [List.take_append_drop]; exact HXU.out) hv ?_
            intro c z hz hc
            have hl := (List.getElem?_eq_some_iff.1 hz).1
            rw [List.length_take] at hl
            rw [List.getElem?_take_of_lt (by omega)] at hz
            exact HLO.out c z (by omega) hz
end Go.Proofs.Ytajpggnmhkpbkaa
