/- PostingSorts returns true for every slice of postings, and leaves the memory that was there as it was. -/
import Derived.Test.YthpcillamglmiaaSrtL
import Derived.Test.YthpcillamglmiaaPKnow
import Derived.Test.YthpcillamglmiaaLift
set_option linter.unusedVariables false
set_option linter.unusedSimpArgs false
namespace Go.Proofs.Ythpcillamglmiaa.postingSorts
open Go.ChangeShapes Go.WideShapes Go.ChangeAt Go.RowKit
attribute [local go_sem ↓] post_execStore
attribute [local go_sem] post_store there_sc World.there_drew

theorem ls_keep {w1 w7 W : World} {v : Value} {l : List Pst} (h : LS Pst.cells 10 w1 v l) (h7 : LS Pst.cells 10 w7 v l) (hs : w7.heap.size ≤ W.heap.size) (hk : ∀ k, k < w1.heap.size → W.heap[k]? = w7.heap[k]?) : LS Pst.cells 10 W v l := by
  by_cases hl : l = []
  · subst hl
    obtain ⟨p, cap, rfl, h1, h2, _⟩ := h7
    exact ⟨p, cap, rfl, h1, h2, fun h => absurd rfl h⟩
  · refine h7.keep hs fun b hb _ => hk b ?_
    obtain ⟨p, cap, rfl, _, _, h3⟩ := h
    obtain ⟨b', o, rfl, hlt, _⟩ := h3 hl
    injection hb with hb
    rw [← hb]
    exact hlt
theorem one_int (k : IntKind) (n : Int) : (Value.int k n).oneCell' = true := rfl
attribute [local go_sem] one_int
def zeroP : Pst := ⟨0, 0, 0, 0, 0, 0, 0, 0, 0, 0⟩
set_option maxRecDepth 4000 in
set_option maxHeartbeats 1000000 in
theorem walk (l : List Pst) (p : Option Addr) (n cap : Nat) (hn : n = l.length) (w : World) (hs : PS w (.slice p n cap) l) :
    Calls Try.prog 8 #[.slice p n cap] w fun e w' => e = .returned (.bool true) ∧ Below w.heap.size w w' := by
  obtain ⟨hls, hwf⟩ := ls_of_ps hs
  have HS := Lib.hid hls; have HWF := Lib.hid hwf; have HN := Lib.hid hn
  have hcap : n ≤ cap ∧ cap ≤ 9223372036854775807 := by have h1 := hls.length; simp only [maxLen] at h1; exact ⟨h1.2.1, h1.2.2⟩
  have hn1 := hcap.1
  have hn2 := hcap.2
  clear hs hls hwf hcap hn
  by_cases h60 : 60 < n
  · go_enter Try.func8, Try.ntmps8
    go_wp2_with fail
    refine (known14_any _).mono ?_
    rintro e w1 ⟨rfl, hb1⟩
    go_wp2
    go_ret
    exact ⟨rfl, hb1⟩
  · go_enter Try.func8, Try.ntmps8
    go_wp2_with (at_builtin; refine wpList_append_recs elemP rfl _ _ rfl w.heap.size _ 0 [] rfl (World.ownsRow_nil _ _ _ _) _ l rfl HS.out (by have := HN.out; omega) (Nat.le_refl _) ?_; intro v1 w1 hown1 hg1 hn1 hat1)
    have HB1 : Hid (Below w.heap.size w w1) := Lib.hid ((Below.refl w.heap.size w).grown hg1 (Nat.le_refl _) (fun b hb => by cases hb))
    have HO1 : Hid (LS Pst.cells 10 w1 v1 l) := Lib.hid (LS.of_own hown1 Pst.cells_length (by decide))
    clear hown1 hg1 hn1 hat1
    go_wp2_with fail
    refine (sortP_any _ l (by have := HN.out; omega) HWF.out _ (HS.out.below HB1.out)).mono ?_
    rintro e w2 ⟨v2, s, rfl, hm, hu, hmine, hb⟩
    have HM := Lib.hid hm; have HU := Lib.hid hu; have HI := Lib.hid hmine
    have HB2 := Lib.hid hb
    have HBW2 := Lib.hid (HB1.out.trans (hb.mono HB1.out.size))
    have HO2 := Lib.hid (HO1.out.below hb)
    clear hm hu hmine hb
    go_wp2_with fail
    refine (rSort_any l HWF.out p n cap (by omega) _ (HS.out.below HBW2.out)).mono ?_
    rintro e w3 ⟨v3, s3, rfl, hm, hu, hown, hb⟩
    obtain rfl : s3 = s := hu.only _ _ HU.out (hm.symm.trans HM.out)
    have HI3 := Lib.hid (HI.out.below hb)
    have HR3 := Lib.hid (LS.of_own hown Pst.cells_length (by decide))
    have HB3 := Lib.hid hb
    have HBW3 := Lib.hid (HBW2.out.trans (hb.mono HBW2.out.size))
    have HO3 := Lib.hid (HO2.out.below hb)
    clear hm hu hown hb
    have hls : s3.length = n := by rw [← HM.out.1, ← HN.out]
    have HSL := Lib.hid hls
    have HWS := Lib.hid (WF.mix HM.out HWF.out)
    clear HM hls
    obtain ⟨p3, c3, hv3⟩ := HR3.out.shape
    rw [HSL.out] at hv3
    subst hv3
    obtain ⟨p2, c2, hv2⟩ := (HI3.out.ls Pst.cells_length (by decide)).shape
    rw [HSL.out] at hv2
    subst hv2
    obtain ⟨p1, c1, hv1⟩ := HO3.out.shape
    rw [← HN.out] at hv1
    subst hv1
    go_wp2_with fail
    refine (rSame_any s3 p2 p3 n c2 c3 _ (HI3.out.ls Pst.cells_length (by decide)) HR3.out).mono ?_
    rintro e w4 ⟨rfl, hb⟩
    have HI4 := Lib.hid (HI3.out.below hb)
    have HBW4 := Lib.hid (HBW3.out.trans (hb.mono HBW3.out.size))
    have HO4 := Lib.hid (HO3.out.below hb)
    clear hb
    go_wp2_with fail
    refine (rSame_any l p1 p n c1 cap _ HO4.out (HS.out.below HBW4.out)).mono ?_
    rintro e w5 ⟨rfl, hb⟩
    have HI5 := Lib.hid (HI4.out.below hb)
    have HBW5 := Lib.hid (HBW4.out.trans (hb.mono HBW4.out.size))
    have HO5 := Lib.hid (HO4.out.below hb)
    clear hb
    go_wp2_with fail
    refine (sortP_any _ s3 (by have := HSL.out; omega) HWS.out _ (HI5.out.ls Pst.cells_length (by decide))).mono ?_
    rintro e w6 ⟨v6, s6, rfl, hm, hu, hmine, hb⟩
    obtain rfl : s3 = s6 := HU.out.only _ _ hu hm
    have HI6 := Lib.hid (HI5.out.below hb)
    have HL6 := Lib.hid (hmine.ls Pst.cells_length (by decide))
    have HBW6 := Lib.hid (HBW5.out.trans (hb.mono HBW5.out.size))
    have HO6 := Lib.hid (HO5.out.below hb)
    clear hm hu hmine hb
    obtain ⟨p6, c6, hv6⟩ := HL6.out.shape
    rw [HSL.out] at hv6
    subst hv6
    go_wp2_with fail
    refine (rSame_any s3 p6 p2 n c6 c2 _ HL6.out (HI6.out.ls Pst.cells_length (by decide))).mono ?_
    rintro e w7 ⟨rfl, hb⟩
    have HI7 := Lib.hid (HI6.out.below hb)
    have HBW7 := Lib.hid (HBW6.out.trans (hb.mono HBW6.out.size))
    have HO7 := Lib.hid (HO6.out.below hb)
    clear hb
    have HFIN : Hid (∀ W, w7.heap.size ≤ W.heap.size → Below w.heap.size w W → (∀ k, k < w1.heap.size → W.heap[k]? = w7.heap[k]?) → LS Pst.cells 10 W (.slice p1 n c1) l) := Lib.hid (fun W h1 h2 h3 => ls_keep HO1.out HO7.out h1 h3)
    rcases HI7.out with ⟨hv, hnil⟩ | ⟨g, cg, hv, hg, hlt, hc, hx, hr⟩
    · injection hv with hv1 hv2 hv3
      subst hv1
      clear hv2 hv3
      have hn0 : n = 0 := by rw [← HSL.out, hnil]; rfl
      subst hn0
      go_wp2_with fail
      go_loopw [6] (fun i wr => i = .int .i64 0 ∧ wr = w7) (fun _ _ => 0)
      case atStart => exact ⟨rfl, rfl⟩
      case round =>
        obtain ⟨rfl, rfl⟩ := hrel
        go_wp2_with fail
        refine (rSame_any l p1 p 0 c1 cap _ HO7.out (HS.out.below HBW7.out)).mono ?_
        rintro e w8 ⟨rfl, hb⟩
        have HBW8 := Lib.hid (HBW7.out.trans (hb.mono HBW7.out.size))
        clear hb
        go_wp2_with fail
        refine (known14_any _).mono ?_
        rintro e w9 ⟨rfl, hb⟩
        go_wp2
        go_ret
        exact ⟨rfl, HBW8.out.trans (hb.mono HBW8.out.size)⟩
    · injection hv with hv1 hv2 hv3
      subst hv1; subst hv3
      clear hv2
      have HR7 := Lib.hid hr
      clear hr
      have HG := Lib.hid (show w1.heap.size ≤ g ∧ w.heap.size ≤ w1.heap.size from ⟨hg, HB1.out.size⟩)
      go_wp2_with fail
      go_loopw [6] (fun i wr => ∃ (k : Nat) (t : List Pst), k ≤ n ∧ i = .int .i64 k ∧ t.length = n ∧ RowL Pst.cells 10 wr g t ∧ Only g w7 wr) (fun i _ => n - (intOf i).toNat)
      case atStart => exact ⟨0, s3, Nat.zero_le _, rfl, HSL.out, HR7.out, Only.refl _ _⟩
      case round =>
        obtain ⟨k, t, hk, rfl, htl, hrow, hon⟩ := hrel
        have HR := Lib.hid hrow; have HON := Lib.hid hon; have HTL := Lib.hid htl
        by_cases hkn : k < n
        · have hth := hrow.2 k (by rw [htl]; exact hkn)
          clear hrow hon htl
          go_wp2
          go_roundw
          case rel => exact ⟨k + 1, t.set k zeroP, by omega, by go_num, by rw [List.length_set]; exact HTL.out, HR.out.set Pst.cells_length k zeroP (by rw [HTL.out]; exact hkn), HON.out.setCells _ _⟩
          case measure => simp [intOf]; omega
        · obtain rfl : k = n := by omega
          have HBW8 : Hid (Below w.heap.size w wr) := Lib.hid (Only.below HBW7.out (Nat.le_trans HG.out.2 HG.out.1) HBW7.out.size hon)
          have HL8 : Hid (LS Pst.cells 10 wr (.slice p1 k c1) l) := Lib.hid (HFIN.out _ hon.size HBW8.out (fun j hj => hon.block j (by have := HG.out.1; omega) (by have := HG.out.1; omega)))
          clear hrow hon htl
          go_wp2_with fail
          refine (rSame_any l p1 p k c1 cap _ HL8.out (HS.out.below HBW8.out)).mono ?_
          rintro e w8 ⟨rfl, hb⟩
          have HBW9 := Lib.hid (HBW8.out.trans (hb.mono HBW8.out.size))
          clear hb
          go_wp2_with fail
          refine (known14_any _).mono ?_
          rintro e w9 ⟨rfl, hb⟩
          go_wp2
          go_ret
          exact ⟨rfl, HBW9.out.trans (hb.mono HBW9.out.size)⟩
set_option maxRecDepth 100000 in
theorem lifted (os : Os) (started : os.Started) (H : Type) (enc : TypeId × Value → H) :
    ReturnsInHanded {} Try.checked os 8 .any (Rows.postingSortsSpec.pre6 enc Try.prog Try.f8 Rows.postingSortsRow.domain false) (Rows.postingSortsSpec.post enc Try.prog Try.f8 false true false false) := by
  refine returnsInHanded_of_change (C := Try.checked) own started (by kernel_rfl) Try.func8
    (ChangeSpec.witness6 (enc := enc) (C := Try.checked) false ⟨#[], #[.slice none 0 0], []⟩ 8 (by kernel_rfl) (by kernel_rfl) (by kernel_rfl) (by kernel_rfl)) ?_
  intro W base args ds gs before hval0 hW hcnd _
  have hval : ∀ (j : Nat) t v, Try.f8.params[j]? = some t → args[j]? = some v → Value.okWide Try.prog W .any base t v := hval0
  have hW' := hW
  obtain ⟨p, q, hA0, hV, rfl, hfz, hnd⟩ := hW
  have hA : DataW.TrodAll enc Try.prog W 0 (fun _ => true) true Try.f8.params.toList args.toList ds p := hA0
  rw [Try.params8] at hA hval
  obtain ⟨v0, vs0, d0, ds0, p0, q0, hargs, rfl, rfl, h0, r0⟩ := trodAll_cons hA
  obtain ⟨rfl, rfl, rfl⟩ := trodAll_nil r0
  obtain rfl : args = #[v0] := by cases args; simp_all
  obtain ⟨l, p', n, cap, rfl, hn, hs⟩ := open_posts' (hval 0 _ v0 rfl rfl) h0
  clear hA0 hval0
  refine (walk l p' n cap hn W hs).mono fun e W' ⟨he, hg⟩ => ?_
  subst he
  exact ⟨_, rfl, post_law laidOut rfl hW' ⟨rfl, rfl, rfl⟩ (by kernel_rfl) hg Try.underlying4 rfl⟩

theorem proved : Rows.PostingSortsSaid :=
  OpenClaim.holds_of_wide 8 Try.f8 rfl rfl rfl rfl rfl rfl rfl ⟨rfl, rfl, rfl, rfl, rfl⟩ rfl rfl rfl rfl rfl (by kernel_rfl) Try.func8 (by kernel_rfl)
    (of_decide_eq_true (by kernel_rfl)) (by unfold Func.isWrapper; first | (rw [if_pos (by decide +kernel)]; kernel_rfl) | (rw [if_neg (by decide +kernel)]; exact ⟨rfl, rfl⟩))
    (fun os started H enc _ => lifted os started H enc)
#print axioms proved
end Go.Proofs.Ythpcillamglmiaa.postingSorts
