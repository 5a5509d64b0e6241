/- Contract: desk.Issue. -/
import Derived.Test.YtadabjkhiaidcaaDsl47
import Derived.Test.YtadabjkhiaidcaaDsl4
import Derived.OwnWalk

set_option linter.unusedVariables false
set_option linter.unusedSimpArgs false
namespace Go.Proofs.Ytadabjkhiaidcaa
open Go.ChangeShapes Go.WideShapes Go.ChangeAt Go.RowKit Go.Deep

attribute [local go_sem ↓] Tk_execLoad Tk_execStore

attribute [local go_sem] Tk_load Tk_store loL_drew okL_drew there_sc World.there_drew

attribute [local irreducible] Dk.rowB Dk.taxedB Dk.numsB Dk.goesB Dk.tksI

set_option maxRecDepth 8000 in
set_option maxHeartbeats 8000000 in
theorem dissue_bad (day : Int) (loc : ByteArray) (fl : List Cpn) (ts : List Txx) (l : List Int) (p q r : Option Addr) (n cap n2 c2 n3 c3 : Nat) (w : World) (hloc : loc.size ≤ maxLen) (hf : LS Cpn.cells 6 w (.slice p n cap) fl) (hx : LS Txx.cells 2 w (.slice q n2 c2) ts) (hl : LS u64C 1 w (.slice r n3 c3) l) (hu : ∀ m ∈ l, U64 m) (hn : n ≤ 1000) (hne : Dk.errI day loc fl ts l ≠ 0) : Calls Try.prog 7 #[.int .i64 day, .string loc, .slice p n cap, .slice q n2 c2, .slice r n3 c3] w fun e w' => e = .returned (.tuple #[.slice none 0 0, .slice none 0 0, .int .i64 (Dk.errI day loc fl ts l)]) ∧ Below w.heap.size w w' := by
  have HF := Lib.hid hf; have HX := Lib.hid hx; have HL := Lib.hid hl; have HUU := Lib.hid hu
  have HROW := Lib.hid (fun W hW => drow_any fl p n cap 12 W (hf.below hW) hn)
  have HTAX := Lib.hid (fun W hW => dtaxed_any ts q n2 c2 W (hx.below hW))
  have HLOC := Lib.hid (fun W => locator_any loc W hloc)
  have HNEED := Lib.hid (fun W => dneed_any (n : Int) W)
  have HNUM := Lib.hid (fun W hW => dnumbers_any l r n3 c3 W (hl.below hW) hu)
  have HWI := Lib.hid (fun W => dwithin_any day W)
  have HNF := Lib.hid hf.length.1; have HNL := Lib.hid hl.length.1
  have hl3 : n3 ≤ 9223372036854775807 := by have h1 := hl.length; unfold maxLen at h1; omega
  have HN1 := Lib.hid hn
  clear hf hx hl hu
  obtain ⟨b1, h1⟩ : ∃ b, Dk.rowB fl 12 = b := ⟨_, rfl⟩
  obtain ⟨b2, h2⟩ : ∃ b, Dk.taxedB ts = b := ⟨_, rfl⟩
  obtain ⟨b3, h3⟩ : ∃ b, Num.loc loc.data.toList = b := ⟨_, rfl⟩
  obtain ⟨b4, h4⟩ : ∃ b, decide ((n3 : Int) = Dk.need n) = b := ⟨_, rfl⟩
  obtain ⟨b5, h5⟩ : ∃ b, Dk.numsB l = b := ⟨_, rfl⟩
  obtain ⟨b6, h6⟩ : ∃ b, Tkt.dayB day = b := ⟨_, rfl⟩
  obtain ⟨b7, h7⟩ : ∃ b, Dk.goesB fl day = b := ⟨_, rfl⟩
  obtain ⟨E, hE⟩ : ∃ E, Dk.errI day loc fl ts l = E := ⟨_, rfl⟩
  have HEV : Hid (E = if (b1 && b2 && b3 && b4 && b5 && b6) = true then (if b7 = true then 0 else 15) else 2) := Lib.hid (by rw [← hE, ← h1, ← h2, ← h3, ← h4, ← h5, ← h6, ← h7, show n3 = l.length from HNL.out, show n = fl.length from HNF.out]; rfl)
  rw [hE] at hne ⊢
  have HNE := Lib.hid hne
  clear hne
  rw [h1] at HROW
  rw [h2] at HTAX
  rw [h3] at HLOC
  rw [h5] at HNUM
  rw [h6] at HWI
  have H1 := Lib.hid h1; have H2 := Lib.hid h2; have H7 := Lib.hid h7
  obtain ⟨nd, hnd⟩ : ∃ z, Dk.need (n : Int) = z := ⟨_, rfl⟩
  rw [hnd] at h4 HNEED
  have hb4 : ((n3 : Int) != nd) = !b4 := by rw [← h4]; rfl
  have HND := Lib.hid hnd; have H4 := Lib.hid h4
  clear hE h1 h2 h3 h4 h5 h6 h7 hnd
  go_enter Try.func7, Try.ntmps7
  go_wp2_with fail
  refine (HROW.out _ (Below.refl _ _)).mono ?_
  rintro e w1 ⟨rv, rfl, hown, hb⟩
  have HB := Lib.hid hb; have HOW := Lib.hid hown
  clear hb hown
  cases b1
  · obtain rfl : E = 2 := by rw [HEV.out]; (first | rfl | simp)
    go_wp2_with (first | (go_at_call 22; refine (HTAX.out _ HB.out).mono ?_; rintro e wn ⟨rfl, hbn⟩; have HB := Lib.hid (HB.out.trans (hbn.mono HB.out.size)); clear hbn) | (go_at_call 23; refine (HLOC.out _).mono ?_; rintro e wn ⟨rfl, hbn⟩; have HB := Lib.hid (HB.out.trans (hbn.mono HB.out.size)); clear hbn) | (go_at_call 24; refine (HNUM.out _ HB.out).mono ?_; rintro e wn ⟨rfl, hbn⟩; have HB := Lib.hid (HB.out.trans (hbn.mono HB.out.size)); clear hbn) | (go_at_call 11; refine (HNEED.out _).mono ?_; rintro e wn ⟨rfl, rfl⟩) | (go_at_call 25; refine (HWI.out _).mono ?_; rintro e wn ⟨rfl, rfl⟩))
    go_ret3
    exact ⟨rfl, HB.out⟩
  · cases b2
    · obtain rfl : E = 2 := by rw [HEV.out]; (first | rfl | simp)
      go_wp2_with (first | (go_at_call 22; refine (HTAX.out _ HB.out).mono ?_; rintro e wn ⟨rfl, hbn⟩; have HB := Lib.hid (HB.out.trans (hbn.mono HB.out.size)); clear hbn) | (go_at_call 23; refine (HLOC.out _).mono ?_; rintro e wn ⟨rfl, hbn⟩; have HB := Lib.hid (HB.out.trans (hbn.mono HB.out.size)); clear hbn) | (go_at_call 24; refine (HNUM.out _ HB.out).mono ?_; rintro e wn ⟨rfl, hbn⟩; have HB := Lib.hid (HB.out.trans (hbn.mono HB.out.size)); clear hbn) | (go_at_call 11; refine (HNEED.out _).mono ?_; rintro e wn ⟨rfl, rfl⟩) | (go_at_call 25; refine (HWI.out _).mono ?_; rintro e wn ⟨rfl, rfl⟩))
      go_ret3
      exact ⟨rfl, HB.out⟩
    · cases b3
      · obtain rfl : E = 2 := by rw [HEV.out]; (first | rfl | simp)
        go_wp2_with (first | (go_at_call 22; refine (HTAX.out _ HB.out).mono ?_; rintro e wn ⟨rfl, hbn⟩; have HB := Lib.hid (HB.out.trans (hbn.mono HB.out.size)); clear hbn) | (go_at_call 23; refine (HLOC.out _).mono ?_; rintro e wn ⟨rfl, hbn⟩; have HB := Lib.hid (HB.out.trans (hbn.mono HB.out.size)); clear hbn) | (go_at_call 24; refine (HNUM.out _ HB.out).mono ?_; rintro e wn ⟨rfl, hbn⟩; have HB := Lib.hid (HB.out.trans (hbn.mono HB.out.size)); clear hbn) | (go_at_call 11; refine (HNEED.out _).mono ?_; rintro e wn ⟨rfl, rfl⟩) | (go_at_call 25; refine (HWI.out _).mono ?_; rintro e wn ⟨rfl, rfl⟩))
        go_ret3
        exact ⟨rfl, HB.out⟩
      · cases b4
        · obtain rfl : E = 2 := by rw [HEV.out]; (first | rfl | simp)
          go_wp2_with (first | (go_at_call 22; refine (HTAX.out _ HB.out).mono ?_; rintro e wn ⟨rfl, hbn⟩; have HB := Lib.hid (HB.out.trans (hbn.mono HB.out.size)); clear hbn) | (go_at_call 23; refine (HLOC.out _).mono ?_; rintro e wn ⟨rfl, hbn⟩; have HB := Lib.hid (HB.out.trans (hbn.mono HB.out.size)); clear hbn) | (go_at_call 24; refine (HNUM.out _ HB.out).mono ?_; rintro e wn ⟨rfl, hbn⟩; have HB := Lib.hid (HB.out.trans (hbn.mono HB.out.size)); clear hbn) | (go_at_call 11; refine (HNEED.out _).mono ?_; rintro e wn ⟨rfl, rfl⟩) | (go_at_call 25; refine (HWI.out _).mono ?_; rintro e wn ⟨rfl, rfl⟩))
          go_ret3
          exact ⟨rfl, HB.out⟩
        · cases b5
          · obtain rfl : E = 2 := by rw [HEV.out]; (first | rfl | simp)
            go_wp2_with (first | (go_at_call 22; refine (HTAX.out _ HB.out).mono ?_; rintro e wn ⟨rfl, hbn⟩; have HB := Lib.hid (HB.out.trans (hbn.mono HB.out.size)); clear hbn) | (go_at_call 23; refine (HLOC.out _).mono ?_; rintro e wn ⟨rfl, hbn⟩; have HB := Lib.hid (HB.out.trans (hbn.mono HB.out.size)); clear hbn) | (go_at_call 24; refine (HNUM.out _ HB.out).mono ?_; rintro e wn ⟨rfl, hbn⟩; have HB := Lib.hid (HB.out.trans (hbn.mono HB.out.size)); clear hbn) | (go_at_call 11; refine (HNEED.out _).mono ?_; rintro e wn ⟨rfl, rfl⟩) | (go_at_call 25; refine (HWI.out _).mono ?_; rintro e wn ⟨rfl, rfl⟩))
            go_ret3
            exact ⟨rfl, HB.out⟩
          · cases b6
            · obtain rfl : E = 2 := by rw [HEV.out]; (first | rfl | simp)
              go_wp2_with (first | (go_at_call 22; refine (HTAX.out _ HB.out).mono ?_; rintro e wn ⟨rfl, hbn⟩; have HB := Lib.hid (HB.out.trans (hbn.mono HB.out.size)); clear hbn) | (go_at_call 23; refine (HLOC.out _).mono ?_; rintro e wn ⟨rfl, hbn⟩; have HB := Lib.hid (HB.out.trans (hbn.mono HB.out.size)); clear hbn) | (go_at_call 24; refine (HNUM.out _ HB.out).mono ?_; rintro e wn ⟨rfl, hbn⟩; have HB := Lib.hid (HB.out.trans (hbn.mono HB.out.size)); clear hbn) | (go_at_call 11; refine (HNEED.out _).mono ?_; rintro e wn ⟨rfl, rfl⟩) | (go_at_call 25; refine (HWI.out _).mono ?_; rintro e wn ⟨rfl, rfl⟩))
              go_ret3
              exact ⟨rfl, HB.out⟩
            · have HOR := Lib.hid (HOW.out rfl)
              clear HOW
              have HOW := Lib.hid HOR.out
              clear HOR
              obtain ⟨qr, zr, hrv⟩ := rec_formT HOW.out
              subst hrv
              have HGQ : Hid (∀ W, LS Cpn.cells 6 W (.slice qr fl.length zr) (fl.map Dk.soldC) → Calls Try.prog 26 #[.slice qr fl.length zr, .int .i64 day] W fun e w' => e = .returned (.bool b7) ∧ Below W.heap.size W w') := Lib.hid (fun W h => by have := dgoes_any (fl.map Dk.soldC) qr fl.length zr day W h; rwa [Dk.goes_map, H7.out] at this)
              cases b7
              · obtain rfl : E = 15 := by rw [HEV.out]; rfl
                go_wp2_with (first | (go_at_call 26; refine (HGQ.out _ (LS.of_own HOW.out Cpn.cells_length (by decide))).mono ?_; rintro e wn ⟨rfl, hbn⟩; have HB := Lib.hid (HB.out.trans (hbn.mono HB.out.size)); clear hbn) | (go_at_call 22; refine (HTAX.out _ HB.out).mono ?_; rintro e wn ⟨rfl, hbn⟩; have HB := Lib.hid (HB.out.trans (hbn.mono HB.out.size)); have HOW := Lib.hid (recs_below HOW.out hbn); clear hbn) | (go_at_call 23; refine (HLOC.out _).mono ?_; rintro e wn ⟨rfl, hbn⟩; have HB := Lib.hid (HB.out.trans (hbn.mono HB.out.size)); have HOW := Lib.hid (recs_below HOW.out hbn); clear hbn) | (go_at_call 24; refine (HNUM.out _ HB.out).mono ?_; rintro e wn ⟨rfl, hbn⟩; have HB := Lib.hid (HB.out.trans (hbn.mono HB.out.size)); have HOW := Lib.hid (recs_below HOW.out hbn); clear hbn) | (go_at_call 11; refine (HNEED.out _).mono ?_; rintro e wn ⟨rfl, rfl⟩) | (go_at_call 25; refine (HWI.out _).mono ?_; rintro e wn ⟨rfl, rfl⟩))
                go_ret3
                exact ⟨rfl, HB.out⟩
              · exact absurd (by rw [HEV.out]; rfl) HNE.out

end Go.Proofs.Ytadabjkhiaidcaa
