/- PostingParts returns true for every slice of postings and every cut, and leaves the memory that was there as it was. -/
import Derived.Test.YthpcillamglmiaaSrtJ
import Derived.Test.YthpcillamglmiaaPartP
import Derived.Test.YthpcillamglmiaaSumC
import Derived.Test.YthpcillamglmiaaPKnow
import Derived.Test.YthpcillamglmiaaLift
set_option linter.unusedVariables false
set_option linter.unusedSimpArgs false
namespace Go.Proofs.Ythpcillamglmiaa.postingParts
open Go.ChangeShapes Go.WideShapes Go.ChangeAt Go.RowKit

set_option maxRecDepth 4000 in
theorem eqInT (x0 x1 x2 x3 x4 x5 x6 : Int) (w : World) : (Op.equalIn 10000 37 (.agg #[.int .i64 x0, .int .i64 x1, .int .i64 x2, .int .i64 x3, .int .i64 x4, .int .i64 x5, .int .i64 x6]) (.agg #[.int .i64 x0, .int .i64 x1, .int .i64 x2, .int .i64 x3, .int .i64 x4, .int .i64 x5, .int .i64 x6])).run Try.prog w = .ok true w := by
  have hS : Try.prog.underlying 37 = some (.struct (Try.prog.fieldsOf 37)) := by kernel_rfl
  have hp : Try.prog.stoodInHeld 37 = false := by kernel_rfl
  rw [show (10000 : Nat) = 9999 + 1 from rfl, run_equalIn_agg w 9999 37 _ _ hS hp]
  simp only [Program.fieldsOf, Try.underlying37]
  go_simp
theorem guardTn (x y : Operand) (xs ys : Array Value) (w : World) : (eqGuard .neq 37 x y (.agg xs) (.agg ys)).run Try.prog w = .ok () w := run_eqGuard_agg w _ _ _ _ _ _ (by kernel_rfl)
theorem ls_none {w : World} {p : Option Addr} {m c : Nat} {l : List Pst} (hl : l = []) (hm : m = 0) (hc : c ≤ maxLen) : LS Pst.cells 10 w (.slice p m c) l := by
  subst hl
  exact ⟨p, c, by rw [hm]; rfl, Nat.zero_le _, hc, fun h => absurd rfl h⟩

set_option maxRecDepth 4000 in
set_option maxHeartbeats 4000000 in
theorem walk (l : List Pst) (p : Option Addr) (n cap : Nat) (hn : n = l.length) (cut : Int) (w : World) (hs : PS w (.slice p n cap) l) :
    Calls Try.prog 9 #[.slice p n cap, .int .i64 cut] w fun e w' => e = .returned (.bool true) ∧ Below w.heap.size w w' := by
  obtain ⟨hls, hwf⟩ := ls_of_ps hs
  have HS := Lib.hid hls; have HWF := Lib.hid hwf; have HN := Lib.hid hn; have HPS := Lib.hid hs
  have hcap : n ≤ cap ∧ cap ≤ 9223372036854775807 := by have h1 := hls.length; simp only [maxLen] at h1; exact ⟨h1.2.1, h1.2.2⟩
  have hn1 := hcap.1
  have hn2 := hcap.2
  clear hs hls hwf hcap hn
  by_cases hbad : 60 < n ∨ cut < 0 ∨ (n : Int) < cut
  · rcases (show 60 < n ∨ (¬ 60 < n ∧ cut < 0) ∨ (¬ 60 < n ∧ ¬ cut < 0 ∧ (n : Int) < cut) from by omega) with h1 | ⟨h1, h2⟩ | ⟨h1, h2, h3⟩
    all_goals
      go_enter Try.func9, Try.ntmps9
      go_wp2_with fail
      refine (known14_any _).mono ?_
      rintro e w1 ⟨rfl, hb1⟩
      go_wp2
      go_ret
      exact ⟨rfl, hb1⟩
  have h60 : ¬ 60 < n := by omega
  have h60i : ¬ (60 : Int) < (n : Int) := by omega
  obtain ⟨ct, rfl⟩ := Int.eq_ofNat_of_zero_le (show 0 ≤ cut by omega)
  have hct : ct ≤ n := by omega
  have hcti : ¬ (n : Int) < (ct : Int) := by omega
  have hct0 : ¬ (ct : Int) < 0 := by omega
  clear hbad
  go_enter Try.func9, Try.ntmps9
  go_wp2
  go_loopw [5] (fun i wr => ∃ k : Nat, k ≤ n ∧ i = .int .i64 k ∧ Below w.heap.size w wr ∧ ∀ z ∈ l.take k, z.may = true) (fun i _ => n - (intOf i).toNat)
  case atStart => exact ⟨0, Nat.zero_le _, rfl, Below.refl _ _, fun z hz => absurd hz (by simp)⟩
  case round =>
    obtain ⟨k, hk, rfl, hbw, hmay⟩ := hrel
    have HMAY := Lib.hid hmay; have HBW := Lib.hid hbw
    clear hmay
    by_cases hlt : k < n
    · obtain ⟨x, hx⟩ : ∃ x, l[k]? = some x := ⟨_, List.getElem?_eq_getElem (by have := HN.out; omega)⟩
      obtain ⟨p', cap', e, h2, h3, h4, h5⟩ := HPS.out.below hbw
      injection e with e1 e2 e3
      subst e1
      obtain ⟨b, o, rfl, hbs, hc⟩ := h5 (by intro h; subst h; simp at hx)
      have hat := hc k x hx
      have HU := Lib.hid (u64_bd (h4 x (List.mem_of_getElem? hx)).2.1)
      obtain ⟨q, hq⟩ : ∃ q, x.may = q := ⟨_, rfl⟩
      have HQ := Lib.hid hq
      have HM : Hid (∀ W, _) := Lib.hid (fun W => rMay_any x.d x.t x.s x.k x.a0 x.a1 x.a2 x.a3 x.a4 x.a5 HU.out.1 HU.out.2 W)
      have HQ2 : Hid (Post.may x.d x.t x.s x.k [x.a0, x.a1, x.a2, x.a3, x.a4, x.a5] = q) := Lib.hid hq
      have HX := Lib.hid hx
      unfold PAt at hat
      obtain ⟨c0, c1, c2, c3, c4, c5, c6, c7, c8, c9⟩ := hat
      clear hx hc hbw hq e2 e3 h2 h3 h4 h5
      go_wp2_with fail
      refine (HM.out _).mono ?_
      rintro e w1 ⟨rfl, hb1⟩
      rw [HQ2.out]
      clear c0 c1 c2 c3 c4 c5 c6 c7 c8 c9
      have HB1 := Lib.hid (HBW.out.trans (hb1.mono HBW.out.size))
      clear hb1
      cases q
      · go_wp2_with fail
        refine (known14_any _).mono ?_
        rintro e w2 ⟨rfl, hb2⟩
        go_wp2
        go_ret
        exact ⟨rfl, HB1.out.trans (hb2.mono HB1.out.size)⟩
      · go_wp2
        go_roundw
        case rel =>
          refine ⟨k + 1, by omega, by go_num, HB1.out, fun z hz => ?_⟩
          rw [List.take_add_one, HX.out] at hz
          rcases List.mem_append.1 hz with hz | hz
          · exact HMAY.out z hz
          · have : z = x := by simpa using hz
            rw [this]; exact HQ.out
        case measure => simp [intOf]; omega
    · obtain rfl : k = n := by omega
      have hall : ∀ z ∈ l, z.may = true := fun z hz => HMAY.out z (by rw [List.take_of_length_le (by have := HN.out; omega)]; exact hz)
      have HLS : Hid (LS Pst.cells 10 wr (.slice p k cap) l) := Lib.hid (HS.out.below hbw)
      clear hbw HMAY
      have hl60 : l.length ≤ 60 := by have := HN.out; omega
      have s1 := Post.sums_cols hall hl60
      have s2 := Post.sums_cols (l := l.take ct) (fun z hz => hall z (List.mem_of_mem_take hz)) (by rw [List.length_take]; omega)
      have s3 := Post.sums_cols (l := l.drop ct) (fun z hz => hall z (List.mem_of_mem_drop hz)) (by rw [List.length_drop]; omega)
      have HSORT : Hid (∀ s, Srt.Mix keyP l s → Post.sums s = Post.sums l) := Lib.hid (fun s hm => by
        have hp := hm.perm
        rw [Post.sums_cols (l := s) (fun z hz => hall z (hm.symm.mem hz)) (by rw [← hm.1]; exact hl60), s1, ← hm.1]
        simp only [Post.colS_perm _ hp])
      have HADD : Hid (∀ f : Pst → Int, Post.colS f (l.take ct) + Post.colS f (l.drop ct) = Post.colS f l) := Lib.hid (fun f => by rw [← Post.colS_append, List.take_append_drop])
      have HBD : Hid (∀ f : Pst → Int, (∀ z, z.may = true → -1125899906842624 ≤ f z ∧ f z ≤ 1125899906842624) → -(60 * 1125899906842624) ≤ Post.colS f l ∧ Post.colS f l ≤ 60 * 1125899906842624) := Lib.hid (fun f hf => by
        have := Post.colS_bound f (l := l) (fun z hz => hf z (hall z hz))
        have hl : (l.length : Int) ≤ 60 := by omega
        omega)
      have hw0 : IntKind.i64.wrap (Post.colS (·.a0) (l.take ct) + Post.colS (·.a0) (l.drop ct)) = Post.colS (·.a0) l := by rw [HADD.out, IntKind.wrap_i64]; have := HBD.out (·.a0) (fun z hz => (Post.may_each hz).1); omega
      have hw1 : IntKind.i64.wrap (Post.colS (·.a1) (l.take ct) + Post.colS (·.a1) (l.drop ct)) = Post.colS (·.a1) l := by rw [HADD.out, IntKind.wrap_i64]; have := HBD.out (·.a1) (fun z hz => (Post.may_each hz).2.1); omega
      have hw2 : IntKind.i64.wrap (Post.colS (·.a2) (l.take ct) + Post.colS (·.a2) (l.drop ct)) = Post.colS (·.a2) l := by rw [HADD.out, IntKind.wrap_i64]; have := HBD.out (·.a2) (fun z hz => (Post.may_each hz).2.2.1); omega
      have hw3 : IntKind.i64.wrap (Post.colS (·.a3) (l.take ct) + Post.colS (·.a3) (l.drop ct)) = Post.colS (·.a3) l := by rw [HADD.out, IntKind.wrap_i64]; have := HBD.out (·.a3) (fun z hz => (Post.may_each hz).2.2.2.1); omega
      have hw4 : IntKind.i64.wrap (Post.colS (·.a4) (l.take ct) + Post.colS (·.a4) (l.drop ct)) = Post.colS (·.a4) l := by rw [HADD.out, IntKind.wrap_i64]; have := HBD.out (·.a4) (fun z hz => (Post.may_each hz).2.2.2.2.1); omega
      have hw5 : IntKind.i64.wrap (Post.colS (·.a5) (l.take ct) + Post.colS (·.a5) (l.drop ct)) = Post.colS (·.a5) l := by rw [HADD.out, IntKind.wrap_i64]; have := HBD.out (·.a5) (fun z hz => (Post.may_each hz).2.2.2.2.2); omega
      generalize Post.colS (·.a0) l = x0 at *
      generalize Post.colS (·.a0) (l.take ct) = y0 at *
      generalize Post.colS (·.a0) (l.drop ct) = z0 at *
      generalize Post.colS (·.a1) l = x1 at *
      generalize Post.colS (·.a1) (l.take ct) = y1 at *
      generalize Post.colS (·.a1) (l.drop ct) = z1 at *
      generalize Post.colS (·.a2) l = x2 at *
      generalize Post.colS (·.a2) (l.take ct) = y2 at *
      generalize Post.colS (·.a2) (l.drop ct) = z2 at *
      generalize Post.colS (·.a3) l = x3 at *
      generalize Post.colS (·.a3) (l.take ct) = y3 at *
      generalize Post.colS (·.a3) (l.drop ct) = z3 at *
      generalize Post.colS (·.a4) l = x4 at *
      generalize Post.colS (·.a4) (l.take ct) = y4 at *
      generalize Post.colS (·.a4) (l.drop ct) = z4 at *
      generalize Post.colS (·.a5) l = x5 at *
      generalize Post.colS (·.a5) (l.take ct) = y5 at *
      generalize Post.colS (·.a5) (l.drop ct) = z5 at *
      clear HADD HBD hall
      have hlt : (l.take ct).length = ct := by rw [List.length_take]; have := HN.out; omega
      have hld : (l.drop ct).length = k - ct := by rw [List.length_drop]; have := HN.out; omega
      obtain ⟨nb, hnb⟩ : ∃ nb, nb = k - ct := ⟨_, rfl⟩
      rw [hlt] at s2
      rw [hld, ← hnb] at s3
      rw [← HN.out] at s1
      have hcn : IntKind.i64.wrap ((ct : Int) + (nb : Int)) = (k : Int) := by rw [IntKind.wrap_i64]; omega
      have HNB := Lib.hid hnb; have HLT := Lib.hid hlt; have HLD := Lib.hid hld; have HS1 := Lib.hid s1
      have HA := Lib.hid (fun W h => sum_any l p k cap HN.out W (ps_of_ls h HWF.out) 0 k x0 x1 x2 x3 x4 x5 s1)
      have HB := Lib.hid (fun W h => sum_any (l.take ct) p ct cap hlt.symm W (ps_of_ls h (fun z hz => HWF.out z (List.mem_of_mem_take hz))) 0 ct y0 y1 y2 y3 y4 y5 s2)
      have HC := Lib.hid (fun p' m c W (hm : m = (l.drop ct).length) h => sum_any (l.drop ct) p' m c hm W (ps_of_ls h (fun z hz => HWF.out z (List.mem_of_mem_drop hz))) 0 nb z0 z1 z2 z3 z4 z5 s3)
      have hE := eqInT k x0 x1 x2 x3 x4 x5
      have hG := guardTn
      clear s1 s2 s3 hlt hld hnb
      go_wp2_with fail
      refine (HA.out _ HLS.out).mono ?_
      rintro e w1 ⟨rfl, hb1⟩
      have HB1 := Lib.hid (HBW.out.trans (hb1.mono HBW.out.size))
      have HLS1 := Lib.hid (HLS.out.below hb1)
      clear hb1
      have HMID : Hid (∃ b o, ¬ ct = 0 → p = some ⟨b, o, none⟩) := Lib.hid (by
        by_cases h0 : ct = 0
        · exact ⟨0, 0, fun h => absurd h0 h⟩
        · obtain ⟨b, o, e, _⟩ := HLS.out.at (i := 0) (x := l[0]'(by have := HN.out; omega)) (List.getElem?_eq_getElem _)
          exact ⟨b, o, fun _ => e⟩)
      go_wp2_with fail
      refine (HB.out _ ((HLS1.out.alloc _).take hct)).mono ?_
      rintro e w2 ⟨rfl, hb2⟩
      have HLS2 := Lib.hid ((HLS1.out.alloc _).below hb2)
      have hr1 := (hb2.block w1.heap.size (by simp)).trans (new_row w1 _ _ rfl)
      have HB2 := Lib.hid ((HB1.out.alloc HB1.out.size _).trans (hb2.mono (by have := HB1.out.size; simp; omega)))
      have hz1 : w1.heap.size < w2.heap.size := by have := hb2.size; simp at this; omega
      have HR1 := Lib.hid hr1
      clear hb2 hr1 HB HLS HLS1 HA
      generalize w1.heap.size = g1 at *
      have hcase : ct = 0 ∨ (¬ ct = 0 ∧ cap = ct) ∨ (¬ ct = 0 ∧ ¬ cap = ct) := by omega
      rcases hcase with h0 | ⟨h0, hcc⟩ | ⟨h0, hcc⟩
      · subst h0
        have hnk : nb = k := by have := HNB.out; omega
        subst hnk
        have hw9 : IntKind.i64.wrap (nb : Int) = (nb : Int) := by rw [IntKind.wrap_i64]; omega
        clear hcn
        go_wp2_with fail
        refine (HC.out _ _ _ _ (by have := HN.out; simp <;> omega) (HLS2.out.alloc _)).mono ?_
        rintro e w3 ⟨rfl, hb3⟩
        have HLS3 := Lib.hid ((HLS2.out.alloc _).below hb3)
        have HR1 := Lib.hid ((hb3.block g1 (by simp; omega)).trans (row_alloc HR1.out _))
        have HR2 := Lib.hid ((hb3.block w2.heap.size (by simp)).trans (new_row w2 _ _ rfl))
        have HB3 := Lib.hid ((HB2.out.alloc HB2.out.size _).trans (hb3.mono (by have := HB2.out.size; simp; omega)))
        have hz2 : w2.heap.size < w3.heap.size := by have := hb3.size; simp at this; omega
        have hz1 : g1 < w3.heap.size := by omega
        clear hb3 HC HLS2
        generalize w2.heap.size = g2 at *
        go_wp2_with fail
        refine (sortP_any _ l (by omega) HWF.out _ (HLS3.out.alloc _)).mono ?_
        rintro e w4 ⟨v4, s, rfl, hm, hu, hmine, hb4⟩
        have HR1 := Lib.hid ((hb4.block g1 (by simp; omega)).trans (row_alloc HR1.out _))
        have HR2 := Lib.hid ((hb4.block g2 (by simp; omega)).trans (row_alloc HR2.out _))
        have HR3 := Lib.hid ((hb4.block w3.heap.size (by simp)).trans (new_row w3 _ _ rfl))
        have HB4 := Lib.hid ((HB3.out.alloc HB3.out.size _).trans (hb4.mono (by have := HB3.out.size; simp; omega)))
        have hz3 : w3.heap.size < w4.heap.size := by have := hb4.size; simp at this; omega
        have hz2 : g2 < w4.heap.size := by omega
        have hz1 : g1 < w4.heap.size := by omega
        have HLS4 := Lib.hid (hmine.ls Pst.cells_length (by decide))
        have HM4 := Lib.hid hm
        have hsl : s.length = nb := by rw [← hm.1, HN.out]
        clear hm hu hmine hb4
        generalize w3.heap.size = g3 at *
        obtain ⟨p4, c4, hv⟩ := HLS4.out.shape
        rw [hsl] at hv
        subst hv
        have HD : Hid (∀ W, LS Pst.cells 10 W (.slice p4 nb c4) s → _) := Lib.hid (fun W h => sum_any s p4 nb c4 hsl.symm W (ps_of_ls h (WF.mix HM4.out HWF.out)) 0 nb x0 x1 x2 x3 x4 x5 ((HSORT.out s HM4.out).trans HS1.out))
        clear hsl
        go_wp2_with fail
        refine (HD.out _ HLS4.out).mono ?_
        rintro e w5 ⟨rfl, hb5⟩
        have hr1 := (hb5.block g1 (by omega)).trans HR1.out
        have hr2 := (hb5.block g2 (by omega)).trans HR2.out
        have hr3 := (hb5.block g3 (by omega)).trans HR3.out
        have HB5 := Lib.hid (HB4.out.trans (hb5.mono HB4.out.size))
        have hz1 : g1 < w5.heap.size := by have := hb5.size; omega
        have hz2 : g2 < w5.heap.size := by have := hb5.size; omega
        have hz3 : g3 < w5.heap.size := by have := hb5.size; omega
        clear hb5
        go_upto_region 12 with fail
        have hr1 := row_alloc hr1 (.cells #[.int .i64 nb, .int .i64 x0, .int .i64 x1, .int .i64 x2, .int .i64 x3, .int .i64 x4, .int .i64 x5] 37 (0, 0))
        have hr2 := row_alloc hr2 (.cells #[.int .i64 nb, .int .i64 x0, .int .i64 x1, .int .i64 x2, .int .i64 x3, .int .i64 x4, .int .i64 x5] 37 (0, 0))
        have hr3 := row_alloc hr3 (.cells #[.int .i64 nb, .int .i64 x0, .int .i64 x1, .int .i64 x2, .int .i64 x3, .int .i64 x4, .int .i64 x5] 37 (0, 0))
        have hr4 := new_row w5 (.cells #[.int .i64 nb, .int .i64 x0, .int .i64 x1, .int .i64 x2, .int .i64 x3, .int .i64 x4, .int .i64 x5] 37 (0, 0)) _ rfl
        have HB6 := Lib.hid (HB5.out.alloc HB5.out.size (.cells #[.int .i64 nb, .int .i64 x0, .int .i64 x1, .int .i64 x2, .int .i64 x3, .int .i64 x4, .int .i64 x5] 37 (0, 0)))
        clear HB5 hz1 hz2 hz3
        generalize w5.heap.size = g4 at *
        generalize w5.alloc (.cells #[.int .i64 nb, .int .i64 x0, .int .i64 x1, .int .i64 x2, .int .i64 x3, .int .i64 x4, .int .i64 x5] 37 (0, 0)) = W6 at *
        have c10 : W6.cell? ⟨g1, 0, none⟩ = some (.int .i64 nb) := cell_of_row W6 g1 0 _ _ _ hr1
        have c11 : W6.cell? ⟨g1, 1, none⟩ = some (.int .i64 x0) := cell_of_row W6 g1 1 _ _ _ hr1
        have c12 : W6.cell? ⟨g1, 2, none⟩ = some (.int .i64 x1) := cell_of_row W6 g1 2 _ _ _ hr1
        have c13 : W6.cell? ⟨g1, 3, none⟩ = some (.int .i64 x2) := cell_of_row W6 g1 3 _ _ _ hr1
        have c14 : W6.cell? ⟨g1, 4, none⟩ = some (.int .i64 x3) := cell_of_row W6 g1 4 _ _ _ hr1
        have c15 : W6.cell? ⟨g1, 5, none⟩ = some (.int .i64 x4) := cell_of_row W6 g1 5 _ _ _ hr1
        have c16 : W6.cell? ⟨g1, 6, none⟩ = some (.int .i64 x5) := cell_of_row W6 g1 6 _ _ _ hr1
        have c20 : W6.cell? ⟨g2, 0, none⟩ = some (.int .i64 ((0 : Nat) : Int)) := cell_of_row W6 g2 0 _ _ _ hr2
        have c21 : W6.cell? ⟨g2, 1, none⟩ = some (.int .i64 y0) := cell_of_row W6 g2 1 _ _ _ hr2
        have c22 : W6.cell? ⟨g2, 2, none⟩ = some (.int .i64 y1) := cell_of_row W6 g2 2 _ _ _ hr2
        have c23 : W6.cell? ⟨g2, 3, none⟩ = some (.int .i64 y2) := cell_of_row W6 g2 3 _ _ _ hr2
        have c24 : W6.cell? ⟨g2, 4, none⟩ = some (.int .i64 y3) := cell_of_row W6 g2 4 _ _ _ hr2
        have c25 : W6.cell? ⟨g2, 5, none⟩ = some (.int .i64 y4) := cell_of_row W6 g2 5 _ _ _ hr2
        have c26 : W6.cell? ⟨g2, 6, none⟩ = some (.int .i64 y5) := cell_of_row W6 g2 6 _ _ _ hr2
        have c30 : W6.cell? ⟨g3, 0, none⟩ = some (.int .i64 nb) := cell_of_row W6 g3 0 _ _ _ hr3
        have c31 : W6.cell? ⟨g3, 1, none⟩ = some (.int .i64 z0) := cell_of_row W6 g3 1 _ _ _ hr3
        have c32 : W6.cell? ⟨g3, 2, none⟩ = some (.int .i64 z1) := cell_of_row W6 g3 2 _ _ _ hr3
        have c33 : W6.cell? ⟨g3, 3, none⟩ = some (.int .i64 z2) := cell_of_row W6 g3 3 _ _ _ hr3
        have c34 : W6.cell? ⟨g3, 4, none⟩ = some (.int .i64 z3) := cell_of_row W6 g3 4 _ _ _ hr3
        have c35 : W6.cell? ⟨g3, 5, none⟩ = some (.int .i64 z4) := cell_of_row W6 g3 5 _ _ _ hr3
        have c36 : W6.cell? ⟨g3, 6, none⟩ = some (.int .i64 z5) := cell_of_row W6 g3 6 _ _ _ hr3
        have c40 : W6.cell? ⟨g4, 0, none⟩ = some (.int .i64 nb) := cell_of_row W6 g4 0 _ _ _ hr4
        have c41 : W6.cell? ⟨g4, 1, none⟩ = some (.int .i64 x0) := cell_of_row W6 g4 1 _ _ _ hr4
        have c42 : W6.cell? ⟨g4, 2, none⟩ = some (.int .i64 x1) := cell_of_row W6 g4 2 _ _ _ hr4
        have c43 : W6.cell? ⟨g4, 3, none⟩ = some (.int .i64 x2) := cell_of_row W6 g4 3 _ _ _ hr4
        have c44 : W6.cell? ⟨g4, 4, none⟩ = some (.int .i64 x3) := cell_of_row W6 g4 4 _ _ _ hr4
        have c45 : W6.cell? ⟨g4, 5, none⟩ = some (.int .i64 x4) := cell_of_row W6 g4 5 _ _ _ hr4
        have c46 : W6.cell? ⟨g4, 6, none⟩ = some (.int .i64 x5) := cell_of_row W6 g4 6 _ _ _ hr4
        clear hr1 hr2 hr3 hr4
        go_wp2_with fail
        refine (known14_any _).mono ?_
        rintro e w6 ⟨rfl, hb6⟩
        go_wp2
        go_ret
        exact ⟨rfl, HB6.out.trans (hb6.mono HB6.out.size)⟩
      · obtain ⟨b, o, hp⟩ := HMID.out
        have hp := hp h0
        subst hp; subst hcc
        obtain rfl : k = cap := by omega
        have hld0 : l.drop k = [] := List.drop_eq_nil_of_le (by have := HN.out; omega)
        have HLD0 := Lib.hid hld0; clear hld0
        have hnb0 : nb = 0 := by have := HNB.out; omega
        subst hnb0
        have hw9 : IntKind.i64.wrap (k : Int) = (k : Int) := by rw [IntKind.wrap_i64]; omega
        go_wp2_with fail
        refine (HC.out _ _ _ _ (by rw [HLD0.out]; simp <;> omega) (ls_none HLD0.out (by omega) (by simp [maxLen]))).mono ?_
        rintro e w3 ⟨rfl, hb3⟩
        have HLS3 := Lib.hid ((HLS2.out.alloc _).below hb3)
        have HR1 := Lib.hid ((hb3.block g1 (by simp; omega)).trans (row_alloc HR1.out _))
        have HR2 := Lib.hid ((hb3.block w2.heap.size (by simp)).trans (new_row w2 _ _ rfl))
        have HB3 := Lib.hid ((HB2.out.alloc HB2.out.size _).trans (hb3.mono (by have := HB2.out.size; simp; omega)))
        have hz2 : w2.heap.size < w3.heap.size := by have := hb3.size; simp at this; omega
        have hz1 : g1 < w3.heap.size := by omega
        clear hb3 HC HLS2
        generalize w2.heap.size = g2 at *
        go_wp2_with fail
        refine (sortP_any _ l (by omega) HWF.out _ (HLS3.out.alloc _)).mono ?_
        rintro e w4 ⟨v4, s, rfl, hm, hu, hmine, hb4⟩
        have HR1 := Lib.hid ((hb4.block g1 (by simp; omega)).trans (row_alloc HR1.out _))
        have HR2 := Lib.hid ((hb4.block g2 (by simp; omega)).trans (row_alloc HR2.out _))
        have HR3 := Lib.hid ((hb4.block w3.heap.size (by simp)).trans (new_row w3 _ _ rfl))
        have HB4 := Lib.hid ((HB3.out.alloc HB3.out.size _).trans (hb4.mono (by have := HB3.out.size; simp; omega)))
        have hz3 : w3.heap.size < w4.heap.size := by have := hb4.size; simp at this; omega
        have hz2 : g2 < w4.heap.size := by omega
        have hz1 : g1 < w4.heap.size := by omega
        have HLS4 := Lib.hid (hmine.ls Pst.cells_length (by decide))
        have HM4 := Lib.hid hm
        have hsl : s.length = k := by rw [← hm.1, HN.out]
        clear hm hu hmine hb4
        generalize w3.heap.size = g3 at *
        obtain ⟨p4, c4, hv⟩ := HLS4.out.shape
        rw [hsl] at hv
        subst hv
        have HD : Hid (∀ W, LS Pst.cells 10 W (.slice p4 k c4) s → _) := Lib.hid (fun W h => sum_any s p4 k c4 hsl.symm W (ps_of_ls h (WF.mix HM4.out HWF.out)) 0 k x0 x1 x2 x3 x4 x5 ((HSORT.out s HM4.out).trans HS1.out))
        clear hsl
        go_wp2_with fail
        refine (HD.out _ HLS4.out).mono ?_
        rintro e w5 ⟨rfl, hb5⟩
        have hr1 := (hb5.block g1 (by omega)).trans HR1.out
        have hr2 := (hb5.block g2 (by omega)).trans HR2.out
        have hr3 := (hb5.block g3 (by omega)).trans HR3.out
        have HB5 := Lib.hid (HB4.out.trans (hb5.mono HB4.out.size))
        have hz1 : g1 < w5.heap.size := by have := hb5.size; omega
        have hz2 : g2 < w5.heap.size := by have := hb5.size; omega
        have hz3 : g3 < w5.heap.size := by have := hb5.size; omega
        clear hb5
        go_upto_region 12 with fail
        have hr1 := row_alloc hr1 (.cells #[.int .i64 k, .int .i64 x0, .int .i64 x1, .int .i64 x2, .int .i64 x3, .int .i64 x4, .int .i64 x5] 37 (0, 0))
        have hr2 := row_alloc hr2 (.cells #[.int .i64 k, .int .i64 x0, .int .i64 x1, .int .i64 x2, .int .i64 x3, .int .i64 x4, .int .i64 x5] 37 (0, 0))
        have hr3 := row_alloc hr3 (.cells #[.int .i64 k, .int .i64 x0, .int .i64 x1, .int .i64 x2, .int .i64 x3, .int .i64 x4, .int .i64 x5] 37 (0, 0))
        have hr4 := new_row w5 (.cells #[.int .i64 k, .int .i64 x0, .int .i64 x1, .int .i64 x2, .int .i64 x3, .int .i64 x4, .int .i64 x5] 37 (0, 0)) _ rfl
        have HB6 := Lib.hid (HB5.out.alloc HB5.out.size (.cells #[.int .i64 k, .int .i64 x0, .int .i64 x1, .int .i64 x2, .int .i64 x3, .int .i64 x4, .int .i64 x5] 37 (0, 0)))
        clear HB5 hz1 hz2 hz3
        generalize w5.heap.size = g4 at *
        generalize w5.alloc (.cells #[.int .i64 k, .int .i64 x0, .int .i64 x1, .int .i64 x2, .int .i64 x3, .int .i64 x4, .int .i64 x5] 37 (0, 0)) = W6 at *
        have c10 : W6.cell? ⟨g1, 0, none⟩ = some (.int .i64 k) := cell_of_row W6 g1 0 _ _ _ hr1
        have c11 : W6.cell? ⟨g1, 1, none⟩ = some (.int .i64 x0) := cell_of_row W6 g1 1 _ _ _ hr1
        have c12 : W6.cell? ⟨g1, 2, none⟩ = some (.int .i64 x1) := cell_of_row W6 g1 2 _ _ _ hr1
        have c13 : W6.cell? ⟨g1, 3, none⟩ = some (.int .i64 x2) := cell_of_row W6 g1 3 _ _ _ hr1
        have c14 : W6.cell? ⟨g1, 4, none⟩ = some (.int .i64 x3) := cell_of_row W6 g1 4 _ _ _ hr1
        have c15 : W6.cell? ⟨g1, 5, none⟩ = some (.int .i64 x4) := cell_of_row W6 g1 5 _ _ _ hr1
        have c16 : W6.cell? ⟨g1, 6, none⟩ = some (.int .i64 x5) := cell_of_row W6 g1 6 _ _ _ hr1
        have c20 : W6.cell? ⟨g2, 0, none⟩ = some (.int .i64 k) := cell_of_row W6 g2 0 _ _ _ hr2
        have c21 : W6.cell? ⟨g2, 1, none⟩ = some (.int .i64 y0) := cell_of_row W6 g2 1 _ _ _ hr2
        have c22 : W6.cell? ⟨g2, 2, none⟩ = some (.int .i64 y1) := cell_of_row W6 g2 2 _ _ _ hr2
        have c23 : W6.cell? ⟨g2, 3, none⟩ = some (.int .i64 y2) := cell_of_row W6 g2 3 _ _ _ hr2
        have c24 : W6.cell? ⟨g2, 4, none⟩ = some (.int .i64 y3) := cell_of_row W6 g2 4 _ _ _ hr2
        have c25 : W6.cell? ⟨g2, 5, none⟩ = some (.int .i64 y4) := cell_of_row W6 g2 5 _ _ _ hr2
        have c26 : W6.cell? ⟨g2, 6, none⟩ = some (.int .i64 y5) := cell_of_row W6 g2 6 _ _ _ hr2
        have c30 : W6.cell? ⟨g3, 0, none⟩ = some (.int .i64 ((0 : Nat) : Int)) := cell_of_row W6 g3 0 _ _ _ hr3
        have c31 : W6.cell? ⟨g3, 1, none⟩ = some (.int .i64 z0) := cell_of_row W6 g3 1 _ _ _ hr3
        have c32 : W6.cell? ⟨g3, 2, none⟩ = some (.int .i64 z1) := cell_of_row W6 g3 2 _ _ _ hr3
        have c33 : W6.cell? ⟨g3, 3, none⟩ = some (.int .i64 z2) := cell_of_row W6 g3 3 _ _ _ hr3
        have c34 : W6.cell? ⟨g3, 4, none⟩ = some (.int .i64 z3) := cell_of_row W6 g3 4 _ _ _ hr3
        have c35 : W6.cell? ⟨g3, 5, none⟩ = some (.int .i64 z4) := cell_of_row W6 g3 5 _ _ _ hr3
        have c36 : W6.cell? ⟨g3, 6, none⟩ = some (.int .i64 z5) := cell_of_row W6 g3 6 _ _ _ hr3
        have c40 : W6.cell? ⟨g4, 0, none⟩ = some (.int .i64 k) := cell_of_row W6 g4 0 _ _ _ hr4
        have c41 : W6.cell? ⟨g4, 1, none⟩ = some (.int .i64 x0) := cell_of_row W6 g4 1 _ _ _ hr4
        have c42 : W6.cell? ⟨g4, 2, none⟩ = some (.int .i64 x1) := cell_of_row W6 g4 2 _ _ _ hr4
        have c43 : W6.cell? ⟨g4, 3, none⟩ = some (.int .i64 x2) := cell_of_row W6 g4 3 _ _ _ hr4
        have c44 : W6.cell? ⟨g4, 4, none⟩ = some (.int .i64 x3) := cell_of_row W6 g4 4 _ _ _ hr4
        have c45 : W6.cell? ⟨g4, 5, none⟩ = some (.int .i64 x4) := cell_of_row W6 g4 5 _ _ _ hr4
        have c46 : W6.cell? ⟨g4, 6, none⟩ = some (.int .i64 x5) := cell_of_row W6 g4 6 _ _ _ hr4
        clear hr1 hr2 hr3 hr4
        go_wp2_with fail
        refine (known14_any _).mono ?_
        rintro e w6 ⟨rfl, hb6⟩
        go_wp2
        go_ret
        exact ⟨rfl, HB6.out.trans (hb6.mono HB6.out.size)⟩
      · obtain ⟨b, o, hp⟩ := HMID.out
        have hp := hp h0
        subst hp
        have hctc : ct ≤ cap := by omega
        go_wp2_with fail
        refine (HC.out _ _ _ _ (by rw [HLD.out]) ((HLS2.out.alloc _).drop hct)).mono ?_
        rintro e w3 ⟨rfl, hb3⟩
        have HLS3 := Lib.hid ((HLS2.out.alloc _).below hb3)
        have HR1 := Lib.hid ((hb3.block g1 (by simp; omega)).trans (row_alloc HR1.out _))
        have HR2 := Lib.hid ((hb3.block w2.heap.size (by simp)).trans (new_row w2 _ _ rfl))
        have HB3 := Lib.hid ((HB2.out.alloc HB2.out.size _).trans (hb3.mono (by have := HB2.out.size; simp; omega)))
        have hz2 : w2.heap.size < w3.heap.size := by have := hb3.size; simp at this; omega
        have hz1 : g1 < w3.heap.size := by omega
        clear hb3 HC HLS2
        generalize w2.heap.size = g2 at *
        go_wp2_with fail
        refine (sortP_any _ l (by omega) HWF.out _ (HLS3.out.alloc _)).mono ?_
        rintro e w4 ⟨v4, s, rfl, hm, hu, hmine, hb4⟩
        have HR1 := Lib.hid ((hb4.block g1 (by simp; omega)).trans (row_alloc HR1.out _))
        have HR2 := Lib.hid ((hb4.block g2 (by simp; omega)).trans (row_alloc HR2.out _))
        have HR3 := Lib.hid ((hb4.block w3.heap.size (by simp)).trans (new_row w3 _ _ rfl))
        have HB4 := Lib.hid ((HB3.out.alloc HB3.out.size _).trans (hb4.mono (by have := HB3.out.size; simp; omega)))
        have hz3 : w3.heap.size < w4.heap.size := by have := hb4.size; simp at this; omega
        have hz2 : g2 < w4.heap.size := by omega
        have hz1 : g1 < w4.heap.size := by omega
        have HLS4 := Lib.hid (hmine.ls Pst.cells_length (by decide))
        have HM4 := Lib.hid hm
        have hsl : s.length = k := by rw [← hm.1, HN.out]
        clear hm hu hmine hb4
        generalize w3.heap.size = g3 at *
        obtain ⟨p4, c4, hv⟩ := HLS4.out.shape
        rw [hsl] at hv
        subst hv
        have HD : Hid (∀ W, LS Pst.cells 10 W (.slice p4 k c4) s → _) := Lib.hid (fun W h => sum_any s p4 k c4 hsl.symm W (ps_of_ls h (WF.mix HM4.out HWF.out)) 0 k x0 x1 x2 x3 x4 x5 ((HSORT.out s HM4.out).trans HS1.out))
        clear hsl
        go_wp2_with fail
        refine (HD.out _ HLS4.out).mono ?_
        rintro e w5 ⟨rfl, hb5⟩
        have hr1 := (hb5.block g1 (by omega)).trans HR1.out
        have hr2 := (hb5.block g2 (by omega)).trans HR2.out
        have hr3 := (hb5.block g3 (by omega)).trans HR3.out
        have HB5 := Lib.hid (HB4.out.trans (hb5.mono HB4.out.size))
        have hz1 : g1 < w5.heap.size := by have := hb5.size; omega
        have hz2 : g2 < w5.heap.size := by have := hb5.size; omega
        have hz3 : g3 < w5.heap.size := by have := hb5.size; omega
        clear hb5
        go_upto_region 12 with fail
        have hr1 := row_alloc hr1 (.cells #[.int .i64 k, .int .i64 x0, .int .i64 x1, .int .i64 x2, .int .i64 x3, .int .i64 x4, .int .i64 x5] 37 (0, 0))
        have hr2 := row_alloc hr2 (.cells #[.int .i64 k, .int .i64 x0, .int .i64 x1, .int .i64 x2, .int .i64 x3, .int .i64 x4, .int .i64 x5] 37 (0, 0))
        have hr3 := row_alloc hr3 (.cells #[.int .i64 k, .int .i64 x0, .int .i64 x1, .int .i64 x2, .int .i64 x3, .int .i64 x4, .int .i64 x5] 37 (0, 0))
        have hr4 := new_row w5 (.cells #[.int .i64 k, .int .i64 x0, .int .i64 x1, .int .i64 x2, .int .i64 x3, .int .i64 x4, .int .i64 x5] 37 (0, 0)) _ rfl
        have HB6 := Lib.hid (HB5.out.alloc HB5.out.size (.cells #[.int .i64 k, .int .i64 x0, .int .i64 x1, .int .i64 x2, .int .i64 x3, .int .i64 x4, .int .i64 x5] 37 (0, 0)))
        clear HB5 hz1 hz2 hz3
        generalize w5.heap.size = g4 at *
        generalize w5.alloc (.cells #[.int .i64 k, .int .i64 x0, .int .i64 x1, .int .i64 x2, .int .i64 x3, .int .i64 x4, .int .i64 x5] 37 (0, 0)) = W6 at *
        have c10 : W6.cell? ⟨g1, 0, none⟩ = some (.int .i64 k) := cell_of_row W6 g1 0 _ _ _ hr1
        have c11 : W6.cell? ⟨g1, 1, none⟩ = some (.int .i64 x0) := cell_of_row W6 g1 1 _ _ _ hr1
        have c12 : W6.cell? ⟨g1, 2, none⟩ = some (.int .i64 x1) := cell_of_row W6 g1 2 _ _ _ hr1
        have c13 : W6.cell? ⟨g1, 3, none⟩ = some (.int .i64 x2) := cell_of_row W6 g1 3 _ _ _ hr1
        have c14 : W6.cell? ⟨g1, 4, none⟩ = some (.int .i64 x3) := cell_of_row W6 g1 4 _ _ _ hr1
        have c15 : W6.cell? ⟨g1, 5, none⟩ = some (.int .i64 x4) := cell_of_row W6 g1 5 _ _ _ hr1
        have c16 : W6.cell? ⟨g1, 6, none⟩ = some (.int .i64 x5) := cell_of_row W6 g1 6 _ _ _ hr1
        have c20 : W6.cell? ⟨g2, 0, none⟩ = some (.int .i64 ct) := cell_of_row W6 g2 0 _ _ _ hr2
        have c21 : W6.cell? ⟨g2, 1, none⟩ = some (.int .i64 y0) := cell_of_row W6 g2 1 _ _ _ hr2
        have c22 : W6.cell? ⟨g2, 2, none⟩ = some (.int .i64 y1) := cell_of_row W6 g2 2 _ _ _ hr2
        have c23 : W6.cell? ⟨g2, 3, none⟩ = some (.int .i64 y2) := cell_of_row W6 g2 3 _ _ _ hr2
        have c24 : W6.cell? ⟨g2, 4, none⟩ = some (.int .i64 y3) := cell_of_row W6 g2 4 _ _ _ hr2
        have c25 : W6.cell? ⟨g2, 5, none⟩ = some (.int .i64 y4) := cell_of_row W6 g2 5 _ _ _ hr2
        have c26 : W6.cell? ⟨g2, 6, none⟩ = some (.int .i64 y5) := cell_of_row W6 g2 6 _ _ _ hr2
        have c30 : W6.cell? ⟨g3, 0, none⟩ = some (.int .i64 nb) := cell_of_row W6 g3 0 _ _ _ hr3
        have c31 : W6.cell? ⟨g3, 1, none⟩ = some (.int .i64 z0) := cell_of_row W6 g3 1 _ _ _ hr3
        have c32 : W6.cell? ⟨g3, 2, none⟩ = some (.int .i64 z1) := cell_of_row W6 g3 2 _ _ _ hr3
        have c33 : W6.cell? ⟨g3, 3, none⟩ = some (.int .i64 z2) := cell_of_row W6 g3 3 _ _ _ hr3
        have c34 : W6.cell? ⟨g3, 4, none⟩ = some (.int .i64 z3) := cell_of_row W6 g3 4 _ _ _ hr3
        have c35 : W6.cell? ⟨g3, 5, none⟩ = some (.int .i64 z4) := cell_of_row W6 g3 5 _ _ _ hr3
        have c36 : W6.cell? ⟨g3, 6, none⟩ = some (.int .i64 z5) := cell_of_row W6 g3 6 _ _ _ hr3
        have c40 : W6.cell? ⟨g4, 0, none⟩ = some (.int .i64 k) := cell_of_row W6 g4 0 _ _ _ hr4
        have c41 : W6.cell? ⟨g4, 1, none⟩ = some (.int .i64 x0) := cell_of_row W6 g4 1 _ _ _ hr4
        have c42 : W6.cell? ⟨g4, 2, none⟩ = some (.int .i64 x1) := cell_of_row W6 g4 2 _ _ _ hr4
        have c43 : W6.cell? ⟨g4, 3, none⟩ = some (.int .i64 x2) := cell_of_row W6 g4 3 _ _ _ hr4
        have c44 : W6.cell? ⟨g4, 4, none⟩ = some (.int .i64 x3) := cell_of_row W6 g4 4 _ _ _ hr4
        have c45 : W6.cell? ⟨g4, 5, none⟩ = some (.int .i64 x4) := cell_of_row W6 g4 5 _ _ _ hr4
        have c46 : W6.cell? ⟨g4, 6, none⟩ = some (.int .i64 x5) := cell_of_row W6 g4 6 _ _ _ hr4
        clear hr1 hr2 hr3 hr4
        go_wp2_with fail
        refine (known14_any _).mono ?_
        rintro e w6 ⟨rfl, hb6⟩
        go_wp2
        go_ret
        exact ⟨rfl, HB6.out.trans (hb6.mono HB6.out.size)⟩
set_option maxRecDepth 100000 in
theorem lifted (os : Os) (started : os.Started) (H : Type) (enc : TypeId × Value → H) :
    ReturnsInHanded {} Try.checked os 9 .any (Rows.postingPartsSpec.pre6 enc Try.prog Try.f9 Rows.postingPartsRow.domain false) (Rows.postingPartsSpec.post enc Try.prog Try.f9 false true false false) := by
  refine returnsInHanded_of_change (C := Try.checked) own started (by kernel_rfl) Try.func9
    (ChangeSpec.witness6 (enc := enc) (C := Try.checked) false ⟨#[], #[.slice none 0 0, .int .i64 0], []⟩ 8 (by kernel_rfl) (by kernel_rfl) (by kernel_rfl) (by kernel_rfl)) ?_
  intro W base args ds gs before hval0 hW hcnd _
  have hval : ∀ (j : Nat) t v, Try.f9.params[j]? = some t → args[j]? = some v → Value.okWide Try.prog W .any base t v := hval0
  have hW' := hW
  obtain ⟨p, q, hA0, hV, rfl, hfz, hnd⟩ := hW
  have hA : DataW.TrodAll enc Try.prog W 0 (fun _ => true) true Try.f9.params.toList args.toList ds p := hA0
  rw [Try.params9] at hA hval
  obtain ⟨v0, vs0, d0, ds0, p0, q0, hargs, rfl, rfl, h0, r0⟩ := trodAll_cons hA
  obtain ⟨v1, vs1, d1, ds1, p1, q1, rfl, rfl, rfl, h1, r1⟩ := trodAll_cons r0
  obtain ⟨rfl, rfl, rfl⟩ := trodAll_nil r1
  obtain rfl : args = #[v0, v1] := by cases args; simp_all
  obtain ⟨l, p', n, cap, rfl, hn, hs⟩ := open_posts' (hval 0 _ v0 rfl rfl) h0
  obtain ⟨cut, rfl, rfl, rfl, wcut⟩ := open_int Try.underlying3 (hval 1 3 v1 rfl rfl) h1
  clear hA0 hval0
  refine (walk l p' n cap hn cut W hs).mono fun e W' ⟨he, hg⟩ => ?_
  subst he
  exact ⟨_, rfl, post_law laidOut rfl hW' ⟨rfl, rfl, rfl⟩ (by kernel_rfl) hg Try.underlying4 rfl⟩

theorem proved : Rows.PostingPartsSaid :=
  OpenClaim.holds_of_wide 9 Try.f9 rfl rfl rfl rfl rfl rfl rfl ⟨rfl, rfl, rfl, rfl, rfl⟩ rfl rfl rfl rfl rfl (by kernel_rfl) Try.func9 (by kernel_rfl)
    (of_decide_eq_true (by kernel_rfl)) (by unfold Func.isWrapper; first | (rw [if_pos (by decide +kernel)]; kernel_rfl) | (rw [if_neg (by decide +kernel)]; exact ⟨rfl, rfl⟩))
    (fun os started H enc _ => lifted os started H enc)
#print axioms proved
end Go.Proofs.Ythpcillamglmiaa.postingParts
