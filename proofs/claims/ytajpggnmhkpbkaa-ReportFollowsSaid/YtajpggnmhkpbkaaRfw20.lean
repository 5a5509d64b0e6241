/- Contract: slices.symMergeCmpFunc at postings: the ways 5,6 of a cut, head A. -/
import Derived.Test.YtajpggnmhkpbkaaRfw18

set_option linter.unusedVariables false
set_option linter.unusedSimpArgs false
namespace Go.Proofs.Ytajpggnmhkpbkaa
open Go.RowKit
attribute [local go_sem ↓] post_execLoad post_execStore

attribute [local go_sem] post_load post_store loL_drew okL_drew there_sc World.there_drew

set_option maxRecDepth 100000 in
set_option maxHeartbeats 6000000 in
theorem symMerge_wayB (n : Nat) (IH : SymM n) (P x y Q : List Pst) (g cap : Nat) (w : World) (hxy : x.length + y.length ≤ n + 1) (hx : 1 < x.length) (hy : 1 < y.length) (hwx : WF x) (hwy : WF y) (hxu : Srt.Up keyP x) (hyu : Srt.Up keyP y)
    (hhead : ∀ hh, hh = (x.length + y.length) / 2 → hh < x.length) (hway : ∀ s hh, hh = (x.length + y.length) / 2 → CutAt x y hh s → (0 < s ∧ s < x.length ∧ s = hh) ∨ (0 < s ∧ s < x.length ∧ s < hh ∧ hh - s < y.length))
    (hcap : (P ++ x ++ y ++ Q).length ≤ cap) (hmax : (P ++ x ++ y ++ Q).length ≤ 1099511627776) (h : RowL Pst.cells 10 w g (P ++ x ++ y ++ Q)) :
    Calls Try.prog 88 #[.slice (some ⟨g, 0, none⟩) (P ++ x ++ y ++ Q).length cap, .int .i64 (P.length : Int), .int .i64 ((P ++ x).length : Int), .int .i64 ((P ++ x ++ y).length : Int), .func (.func 61) #[] #[]] w
      fun v w' => v = .returned (.tuple #[]) ∧ ∃ s', Srt.Mix keyP (x ++ y) s' ∧ Srt.Up keyP s' ∧ RowL Pst.cells 10 w' g (P ++ s' ++ Q) ∧ Only g w w' := by
  generalize hN : (P ++ x ++ y ++ Q).length = N at *
  generalize ha : P.length = a at *
  generalize hm : (P ++ x).length = m at *
  generalize hb : (P ++ x ++ y).length = b at *
  have e1 : m = a + x.length := by rw [← hm, ← ha]; simp
  have e2 : b = m + y.length := by rw [← hb, ← hm]; simp; omega
  have e3 : N = b + Q.length := by rw [← hb, ← hN]; simp; omega
  generalize hn : x.length = lx at *
  generalize hn2 : y.length = ly at *
  have HIH := Lib.hid IH; clear IH
  have HH := Lib.hid h; have HN := Lib.hid hN; have HA := Lib.hid ha; have HLX := Lib.hid hn; have HLY := Lib.hid hn2; have HE1 := Lib.hid e1; have HE2 := Lib.hid e2; have HE3 := Lib.hid e3
  have HWX := Lib.hid hwx; have HWY := Lib.hid hwy; have HXU := Lib.hid hxu; have HYU := Lib.hid hyu
  have HXY := Lib.hid hxy
  have HWAY := Lib.hid hway; clear hway
  obtain ⟨nn, hnn⟩ : ∃ nn, nn = lx := ⟨_, rfl⟩
  obtain ⟨mm, hmm⟩ : ∃ mm, mm = ly := ⟨_, rfl⟩
  obtain ⟨hh, hhh⟩ : ∃ hh, hh = (lx + ly) / 2 := ⟨_, rfl⟩
  obtain ⟨mid, hmid⟩ : ∃ mid, mid = a + hh := ⟨_, rfl⟩
  obtain ⟨ab, hab⟩ : ∃ ab, ab = a + b := ⟨_, rfl⟩
  obtain ⟨nm, hnm⟩ : ∃ nm, nm = mid + m := ⟨_, rfl⟩
  obtain ⟨pp, hpp⟩ : ∃ pp, pp = mid + m - 1 := ⟨_, rfl⟩
  have hhead := hhead hh hhh
  have hs1 : IntKind.i64.wrap ((m : Int) - (a : Int)) = (nn : Int) := by rw [IntKind.wrap_i64]; omega
  have hs2 : IntKind.i64.wrap ((b : Int) - (m : Int)) = (mm : Int) := by rw [IntKind.wrap_i64]; omega
  have hs3 : IntKind.i64.wrap ((a : Int) + (b : Int)) = (ab : Int) := by rw [IntKind.wrap_i64]; omega
  have hs4 : IntKind.u64.wrap (ab : Int) = (ab : Int) := by rw [IntKind.wrap_u64]; omega
  have hs5 : (ab : Int) / 2 = (mid : Int) := by omega
  have hs6 : IntKind.i64.wrap ((mid : Int) + (m : Int)) = (nm : Int) := by rw [IntKind.wrap_i64]; omega
  have hs7 : IntKind.i64.wrap ((nm : Int) - 1) = (pp : Int) := by rw [IntKind.wrap_i64]; omega
  have hmid0 : (0 : Int) ≤ (mid : Int) := by omega
  have hmid1 : (mid : Int) ≤ 1099511627776 := by omega
  have hne1 : ((nn : Int) == 1) = false := by simp; omega
  have hne2 : ((mm : Int) == 1) = false := by simp; omega
  have HHH := Lib.hid hhh; have HMID := Lib.hid hmid; have HNM := Lib.hid hnm; have HPP := Lib.hid hpp
  -- where the search begins and ends
  have HW1 := Lib.hid hs1; have HW2 := Lib.hid hs2; have HW3 := Lib.hid hs3; have HW4 := Lib.hid hs4; have HW5 := Lib.hid hs5; have HW6 := Lib.hid hs6; have HW7 := Lib.hid hs7
  clear hs1 hs2 hs3 hs4 hs5 hs6 hs7
  obtain ⟨s0, hs0⟩ : ∃ s0, s0 = if hh < lx then hh - ly else 0 := ⟨_, rfl⟩
  obtain ⟨r0, hr0⟩ : ∃ r0, r0 = if hh < lx then hh else lx := ⟨_, rfl⟩
  obtain ⟨sa, hsa⟩ : ∃ sa, sa = a + s0 := ⟨_, rfl⟩
  obtain ⟨ra, hra⟩ : ∃ ra, ra = a + r0 := ⟨_, rfl⟩
  have hsr : s0 ≤ r0 ∧ r0 ≤ lx ∧ r0 ≤ hh ∧ hh - s0 ≤ ly ∧ (s0 = 0 ∨ hh - s0 = ly) ∧ (r0 = lx ∨ r0 = hh) := by
    by_cases hc : hh < lx
    · rw [if_pos hc] at hs0 hr0; omega
    · rw [if_neg hc] at hs0 hr0; omega
  have HSR := Lib.hid hsr
  have HSA := Lib.hid hsa; have HRA := Lib.hid hra
  have hcase : mid < m ∧ ra = mid ∧ IntKind.i64.wrap ((nm : Int) - (b : Int)) = (sa : Int) := by
    rw [if_pos hhead] at hs0 hr0
    have q1 : (nm : Int) - (b : Int) = (sa : Int) := by omega
    refine ⟨by omega, by omega, ?_⟩
    rw [IntKind.wrap_i64, q1]; omega
  have hraN : ra ≤ N := by omega
  clear h hN ha hn hn2 hm hb hwx hwy hxu hyu e1 e2 e3 hnn hmm hhh hmid hab hnm hpp hsr hsa hra hs0 hr0 hxy
  have HHX := Lib.hid hx; have HHY := Lib.hid hy
  go_enter Try.func88, Try.ntmps88
  obtain ⟨hc, he1, hs8⟩ := hcase
  have HE := Lib.hid he1; clear he1 hhead
  have hs1 := HW1.out; have hs2 := HW2.out; have hs3 := HW3.out; have hs4 := HW4.out; have hs5 := HW5.out; have hs6 := HW6.out; have hs7 := HW7.out
  go_wp2
  clear hs1 hs2 hs3 hs4 hs5 hs6 hs7
  go_loopw [20, 21] (fun i j wr => ∃ (s' r' : Nat), i = .int .i64 ((a + s' : Nat) : Int) ∧ j = .int .i64 ((a + r' : Nat) : Int) ∧ s0 ≤ s' ∧ s' ≤ r' ∧ r' ≤ r0 ∧ (∀ c z1 z2, s0 ≤ c → c < s' → x[c]? = some z1 → y[hh - 1 - c]? = some z2 → keyP z1 ≤ keyP z2) ∧ (∀ c z1 z2, r' ≤ c → c < r0 → x[c]? = some z1 → y[hh - 1 - c]? = some z2 → keyP z2 < keyP z1) ∧ RowL Pst.cells 10 wr g (P ++ x ++ y ++ Q) ∧ Only g w wr) (fun i j _ => (intOf j - intOf i).toNat)
  case atStart =>
    refine ⟨s0, r0, ?_, ?_, Nat.le_refl _, HSR.out.1, Nat.le_refl _, fun c z1 z2 h1 h2 => by omega, fun c z1 z2 h1 h2 => by omega, HH.out, Only.refl _ _⟩
    · rw [← HSA.out]
    · rw [← HRA.out, HE.out]
  case round =>
    obtain ⟨s', r', rfl, rfl, h1, h2, h3, hlo, hhi, hrow, hon⟩ := hrel
    have HLO := Lib.hid hlo; have HHI := Lib.hid hhi; have HR := Lib.hid hrow; have HO := Lib.hid hon
    clear hlo hhi hrow hon
    obtain ⟨p, hp⟩ : ∃ p, p = a + s' := ⟨_, rfl⟩
    obtain ⟨q, hq⟩ : ∃ q, q = a + r' := ⟨_, rfl⟩
    rw [← hp, ← hq]
    have HP := Lib.hid hp; have HQ := Lib.hid hq
    have hqN : q ≤ N := by have := HRA.out; omega
    by_cases hlt : p < q
    · obtain ⟨c, hcc⟩ : ∃ c, c = (s' + r') / 2 := ⟨_, rfl⟩
      obtain ⟨k, hk⟩ : ∃ k, k = hh - 1 - c := ⟨_, rfl⟩
      obtain ⟨sm, hsm⟩ : ∃ sm, sm = p + q := ⟨_, rfl⟩
      obtain ⟨ca, hca⟩ : ∃ ca, ca = a + c := ⟨_, rfl⟩
      obtain ⟨pc, hpc⟩ : ∃ pc, pc = m + k := ⟨_, rfl⟩
      have q1 := HSR.out; have q2 := HE1.out; have q3 := HE2.out; have q4 := HE3.out; have q5 := HPP.out; have q6 := HMID.out
      have hw2 : IntKind.i64.wrap ((p : Int) + (q : Int)) = (sm : Int) := by rw [IntKind.wrap_i64]; omega
      have hw3 : IntKind.u64.wrap (sm : Int) = (sm : Int) := by rw [IntKind.wrap_u64]; omega
      have hw4 : (sm : Int) / 2 = (ca : Int) := by omega
      have hw5 : IntKind.i64.wrap ((pp : Int) - (ca : Int)) = (pc : Int) := by rw [IntKind.wrap_i64]; omega
      have hcN : (ca : Int) < (N : Int) := by omega
      have hc0 : (0 : Int) ≤ (ca : Int) := by omega
      have hcb : (ca : Int) ≤ 1099511627776 := by omega
      have hpN : (pc : Int) < (N : Int) := by omega
      have hp0 : (0 : Int) ≤ (pc : Int) := by omega
      have hpca : p ≤ ca := by omega
      have hcaq : ca < q := by omega
      have hcs : s' ≤ c := by omega
      have hcr : c < r' := by omega
      obtain ⟨d, hd⟩ : ∃ d, x[c]? = some d := ⟨_, List.getElem?_eq_getElem (by have := HLX.out; omega)⟩
      obtain ⟨f, hf⟩ : ∃ f, y[k]? = some f := ⟨_, List.getElem?_eq_getElem (by have := HLY.out; omega)⟩
      have hxp : x = x.take c ++ d :: x.drop (c + 1) := by
        obtain ⟨hl, he⟩ := List.getElem?_eq_some_iff.1 hd
        rw [← he, ← List.drop_eq_getElem_cons hl, List.take_append_drop]
      have hyp : y = y.take k ++ f :: y.drop (k + 1) := by
        obtain ⟨hl, he⟩ := List.getElem?_eq_some_iff.1 hf
        rw [← he, ← List.drop_eq_getElem_cons hl, List.take_append_drop]
      have hL : P ++ x ++ y ++ Q = (P ++ x.take c) ++ d :: ((x.drop (c + 1) ++ y.take k) ++ f :: (y.drop (k + 1) ++ Q)) := by
        conv => lhs; rw [hxp, hyp]
        simp
      have hla : (P ++ x.take c).length = ca := by rw [List.length_append, HA.out, List.length_take]; have := HLX.out; omega
      have HTWO := Lib.hid (fun W h => two_at (P := P) (A := P ++ x.take c) (B := x.drop (c + 1) ++ y.take k) (C := y.drop (k + 1) ++ Q) (d := d) (e := f) (g := g) (q1 := ca) (q := pc) hla (by rw [hla, List.length_append, List.length_drop, List.length_take]; have := HLX.out; have := HLY.out; omega) W h)
      have hR3 := HR.out
      rw [hL] at hR3
      have hgw : g < wr.heap.size := okL_block (HTWO.out wr hR3).2.1 (by decide)
      obtain ⟨f1, f2, f3, f4, f5, f6⟩ := HTWO.out wr hR3
      have HR3 := Lib.hid hR3
      have HOC := Lib.hid (fun W => order_cells f d W)
      have HKEY := Lib.hid (ord_key (HWY.out f (List.mem_of_getElem? hf)) (HWX.out d (List.mem_of_getElem? hd)))
      have HDAT := Lib.hid hd; have HFAT := Lib.hid hf
      have HC := Lib.hid hcc; have HK := Lib.hid hk; have HCA := Lib.hid hca
      clear hR3 hL hxp hyp hf hd hla hcc hk hca hpc hsm q1 q2 q3 q4 q5 q6 hp hq
      generalize hcd : f.cells = cf at *
      generalize hce : d.cells = cd at *
      generalize ordI f d = res at *
      have HCD := Lib.hid hcd; have HCE := Lib.hid hce
      clear hcd hce
      obtain ⟨bb, hbb⟩ : ∃ bb, decide (res < 0) = bb := ⟨_, rfl⟩
      have HBB := Lib.hid hbb
      cases bb
      rotate_left
      all_goals
        go_wp2
        go_region_held3 (fun w' => loL 10 w' g (ca * 10) = cd ∧ okL 10 w' g (ca * 10) ∧ loL 10 w' g (pc * 10) = cf ∧ okL 10 w' g (pc * 10)) (first | exact ⟨f1, f2, f4, f5⟩ | exact ⟨x1, x2, x4, x5⟩) ((go_at_call 61; refine (HOC.out _).mono ?_; rintro e w1 ⟨rfl, hb1⟩; have hb2 := (Below.refl wr.heap.size wr).drew.trans hb1; obtain ⟨x1, x2, x3, x4, x5, x6⟩ := (HTWO.out _ (HR3.out.below hgw hb2))))
        have HB2 := Lib.hid hb2
        clear hb1 hb2 f1 f2 f3 f4 f5 f6 x1 x2 x3 x4 x5 x6
      · go_wp2
        have hp := HP.out; have hq := HQ.out; have hcc := HCA.out
        have hk := HK.out; have q1 := HSR.out
        refine ⟨⟨s', c, by rw [hp], by rw [hcc], by omega, by omega, by omega, HLO.out, ?_, HR.out.below hgw HB2.out, HO.out.trans (.of_below HB2.out)⟩, by simp [intOf]; omega⟩
        intro c' z1 z2 k1 k2 k3 k4
        have g1 := HXU.out.at (i := c) (j := c') (by omega) HDAT.out k3
        have g2 := HYU.out.at (i := hh - 1 - c') (j := k) (by omega) k4 HFAT.out
        have g3 := HKEY.out.1 (of_decide_eq_true HBB.out)
        omega
      · obtain ⟨c1, hc1⟩ : ∃ c1, c1 = ca + 1 := ⟨_, rfl⟩
        have hw6 : IntKind.i64.wrap ((ca : Int) + 1) = (c1 : Int) := by rw [IntKind.wrap_i64]; omega
        have HC1 := Lib.hid hc1; clear hc1
        go_wp2
        go_roundw
        case rel =>
          have hp := HP.out; have hq := HQ.out; have hcc := HCA.out; have hc1 := HC1.out
          have hk := HK.out; have q1 := HSR.out
          refine ⟨c + 1, r', by congr 2; omega, by rw [hq], by omega, by omega, by omega, ?_, HHI.out, HR.out.below hgw HB2.out, HO.out.trans (.of_below HB2.out)⟩
          intro c' z1 z2 k1 k2 k3 k4
          have g1 := HXU.out.at (i := c') (j := c) (by omega) k3 HDAT.out
          have g2 := HYU.out.at (i := k) (j := hh - 1 - c') (by omega) HFAT.out k4
          have g3 := of_decide_eq_false HBB.out
          have g4 := HKEY.out
          omega
        case measure => have := HC1.out; simp [intOf]; omega
    · obtain rfl : s' = r' := by omega
      obtain rfl : p = q := by omega
      have q1 := HSR.out; have q2 := HE1.out; have q3 := HE2.out; have q4 := HE3.out; have q5 := HNM.out; have q6 := HMID.out; have q7 := HHH.out; have q8 := HLX.out; have q9 := HLY.out; have q10 := HXY.out
      have q11 := HHX.out; have q12 := HHY.out
      have HCUT : Hid (CutAt x y hh s') := Lib.hid ⟨by omega, by omega, by omega,
        fun u v k1 k2 k3 => HLO.out (s' - 1) u v (by have := (List.getElem?_eq_some_iff.1 k3).1; omega) (by omega) k2 (by rw [show hh - 1 - (s' - 1) = hh - s' from by omega]; exact k3),
        fun u v k1 k2 k3 => HHI.out s' u v (Nat.le_refl _) (by have := (List.getElem?_eq_some_iff.1 k2).1; omega) k2 (by rw [show hh - 1 - s' = hh - s' - 1 from by omega]; exact k3)⟩
      obtain ⟨en, hen⟩ : ∃ en, en = m + (hh - s') := ⟨_, rfl⟩
      have hw7 : IntKind.i64.wrap ((nm : Int) - (p : Int)) = (en : Int) := by rw [IntKind.wrap_i64]; omega
      have HEN := Lib.hid hen
      obtain ⟨x1, x2, y1, y2, P0, P1, P2, P3, P4, P5, P6, P7, P8, l1, l2, l3, l4⟩ := sym_pack n HIH.out P x y Q g cap N a m b hh mid s' p en (by omega) (by omega) (by omega) HWX.out HWY.out HXU.out HYU.out HN.out hcap hmax HA.out (by rw [q8]; exact q2) (by rw [q9]; exact q3) (by rw [q8, q9]; exact q7) q6 hp hen HCUT.out
      have HR0 := Lib.hid (P0 _ HR.out); have HROT := Lib.hid P1; have HLEFT := Lib.hid P2; have HRIGHT := Lib.hid P3
      have HFIN : Hid (∀ l r W, Srt.Mix keyP (x1 ++ y1) l → Srt.Up keyP l → Srt.Mix keyP (x2 ++ y2) r → Srt.Up keyP r → RowL Pst.cells 10 W g ((P ++ l) ++ r ++ Q) → Only g wr W → ∃ s', Srt.Mix keyP (x ++ y) s' ∧ Srt.Up keyP s' ∧ RowL Pst.cells 10 W g (P ++ s' ++ Q) ∧ Only g w W) := Lib.hid (fun l r W => P4 l r w wr W HO.out)
      have HLL := Lib.hid P5; have HRR := Lib.hid P6; have HNR := Lib.hid (fun k => P7 k _ HR0.out); have HLEN := Lib.hid P8
      have L1 := Lib.hid l1; have L2 := Lib.hid l2; have L3 := Lib.hid l3; have L4 := Lib.hid l4
      rw [q8] at l2
      rw [q9] at l4
      clear P0 P1 P2 P3 P4 P5 P6 P7 P8
      have c1 := HWAY.out s' hh HHH.out HCUT.out
      have g1 := HCUT.out.sx; have g2 := HCUT.out.sh; have g3 := HCUT.out.hy
      rcases c1 with c1 | c1
      · have k1 : a < p := by omega
        have k2 : p < m := by omega
        have k3 : ¬ m < en := by omega
        have k4 : ¬ p < mid := by omega
        have k5 : mid < en := by omega
        have k6 : en < b := by omega
        have m1 : 0 < x1.length := by omega
        have m2 : 0 < x2.length := by omega
        have m3 : ¬ 0 < y1.length := by omega
        have m4 : 0 < y2.length := by omega
        have M1 := Lib.hid m1; have M2 := Lib.hid m2; have M3 := Lib.hid m3; have M4 := Lib.hid m4
        clear m1 m2 m3 m4 c1 g1 g2 g3 l1 l2 l3 l4 hen hp hq q1 q2 q3 q4 q5 q6 q7 q8 q9 q10 q11 q12 h1 h2 h3
        go_wp2_with fail
        have HR1 := Lib.hid (HNR.out (by have := M2.out; have := M3.out; omega)); have HOA := Lib.hid (Only.refl g wr)
        obtain ⟨l, hl⟩ : ∃ l, l = x1 ++ y1 := ⟨_, rfl⟩
        have HLM : Hid (Srt.Mix keyP (x1 ++ y1) l) := Lib.hid (by rw [hl]; exact .refl _); have HLU : Hid (Srt.Up keyP l) := Lib.hid (by rw [hl]; exact HLL.out (by have := M1.out; have := M3.out; omega))
        have HR2 : Hid (RowL Pst.cells 10 wr g ((P ++ l) ++ x2 ++ y2 ++ Q)) := Lib.hid (by rw [hl]; simpa using HR1.out)
        have HOB := HOA; have HLL2 : Hid (l.length = hh) := Lib.hid (by rw [hl]; exact HLEN.out)
        clear hl
        refine (HRIGHT.out M2.out M4.out l _ HLL2.out HR2.out).mono ?_
        rintro e wC ⟨rfl, r, hm2, hu2, hr, ho⟩
        have HRM := Lib.hid hm2; have HRU := Lib.hid hu2; have HR3 := Lib.hid hr; have HOC2 := Lib.hid (HOB.out.trans ho)
        clear hm2 hu2 hr ho
        go_wp2
        go_end0
        exact ⟨rfl, HFIN.out l r _ HLM.out HLU.out HRM.out HRU.out HR3.out HOC2.out⟩
      · have k1 : a < p := by omega
        have k2 : p < m := by omega
        have k3 : m < en := by omega
        have k4 : p < mid := by omega
        have k5 : mid < en := by omega
        have k6 : en < b := by omega
        have m1 : 0 < x1.length := by omega
        have m2 : 0 < x2.length := by omega
        have m3 : 0 < y1.length := by omega
        have m4 : 0 < y2.length := by omega
        have M1 := Lib.hid m1; have M2 := Lib.hid m2; have M3 := Lib.hid m3; have M4 := Lib.hid m4
        clear m1 m2 m3 m4 c1 g1 g2 g3 l1 l2 l3 l4 hen hp hq q1 q2 q3 q4 q5 q6 q7 q8 q9 q10 q11 q12 h1 h2 h3
        go_wp2_with fail
        refine (HROT.out M2.out M3.out _ HR0.out).mono ?_
        rintro e wA ⟨rfl, hr, ho⟩
        have HR1 := Lib.hid hr; have HOA := Lib.hid ho; clear hr ho
        go_wp2_with fail
        refine (HLEFT.out M1.out M3.out _ (by simpa using HR1.out)).mono ?_
        rintro e wB ⟨rfl, l, hm1, hu1, hr, ho⟩
        have HLM := Lib.hid hm1; have HLU := Lib.hid hu1; have HR2 : Hid (RowL Pst.cells 10 wB g ((P ++ l) ++ x2 ++ y2 ++ Q)) := Lib.hid (by simpa using hr)
        have HOB := Lib.hid (HOA.out.trans ho); have HLL2 : Hid (l.length = hh) := Lib.hid (by rw [← HLEN.out]; exact hm1.1.symm)
        clear hm1 hu1 hr ho
        go_wp2_with fail
        refine (HRIGHT.out M2.out M4.out l _ HLL2.out HR2.out).mono ?_
        rintro e wC ⟨rfl, r, hm2, hu2, hr, ho⟩
        have HRM := Lib.hid hm2; have HRU := Lib.hid hu2; have HR3 := Lib.hid hr; have HOC2 := Lib.hid (HOB.out.trans ho)
        clear hm2 hu2 hr ho
        go_wp2
        go_end0
        exact ⟨rfl, HFIN.out l r _ HLM.out HLU.out HRM.out HRU.out HR3.out HOC2.out⟩
end Go.Proofs.Ytajpggnmhkpbkaa
