/- ReportFollows returns true for all days, cuts and postings, and leaves the memory that was there as it was. -/
import Derived.Test.YtajpggnmhkpbkaaRfw50
import Derived.Test.YtajpggnmhkpbkaaRfw51
import Derived.Test.YtajpggnmhkpbkaaRfw38
import Derived.Test.YtajpggnmhkpbkaaRfw8

set_option linter.unusedVariables false
set_option linter.unusedSimpArgs false
namespace Go.Proofs.Ytajpggnmhkpbkaa.reportFollows
open Go.ChangeShapes Go.WideShapes Go.ChangeAt Go.RowKit
attribute [local go_sem ↓] rp_execLoad rp_execStore

attribute [local go_sem] rp_load rp_store loL_drew okL_drew there_sc Rpr.cells_all Rpr.cells_length

theorem mineLower {α : Type} {enc : α → List Value} {n : Nat} {w : World} {base base' : Nat} {v : Value} {l : List α} (h : Mine enc n w base v l) (hb : base' ≤ base) : Mine enc n w base' v l := by
  rcases h with ⟨rfl, rfl⟩ | ⟨k, cap, rfl, h1, h2⟩
  · exact .inl ⟨rfl, rfl⟩
  · exact .inr ⟨k, cap, rfl, Nat.le_trans hb h1, h2⟩
theorem take_snR {α : Type} {l : List α} {k : Nat} {y : α} (h : l[k]? = some y) : l.take (k + 1) = l.take k ++ [y] := by rw [List.take_add_one, h]; rfl
def intC (x : Int) : List Value := [.int .i64 x]
set_option maxRecDepth 8000 in
set_option maxHeartbeats 8000000 in
theorem walk_ok (from0 to0 : Int) (cu : List Int) (pc : Option Addr) (nc cc : Nat) (l : List Pst) (pl : Option Addr) (nl cl : Nat) (h1 : ¬ 50 < nl) (h2 : ¬ 12 < nc) (hf : Rep.FineP l) (h3 : ¬ from0 < 0) (h4 : ¬ to0 < from0) (h5 : ¬ 1000000 < to0) (w : World) (hc : LS intC 1 w (.slice pc nc cc) cu) (hs : PS w (.slice pl nl cl) l) :
    Calls Try.prog 4 #[.int .i64 from0, .int .i64 to0, .slice pc nc cc, .slice pl nl cl] w fun e w' => e = .returned (.bool true) ∧ Below w.heap.size w w' := by
  have hln := ps_len hs
  have hcn := hc.length
  have hwf := ps_wf hs
  have HPS := Lib.hid hs; have HCU := Lib.hid hc
  have hl60 : l.length ≤ 60 := by omega
  have HFN := Lib.hid (fun W h => rFine_any l true ⟨fun _ => hf, fun _ => rfl⟩ pl nl cl W h)
  have HMK := Lib.hid (fun a b hd W h => makeF_any a b l pl nl cl hwf hf hl60 hd W h)
  have HJN := Lib.hid (fun r s h0 h1 h2 h3 h4 W hr hs => joinF_any l hwf hf hl60 r s h0 h1 h2 h3 h4 W hr hs)
  have HSP := Lib.hid (fun j d h0 h1 h2 h4 W hj => splitF_any l hwf hf hl60 j d h0 h1 h2 h4 W hj)
  have HADD : Hid (∀ a b c : Int, a ≤ b + 1 → b ≤ c → (Rep.colsOf l).N a c = (Rep.colsOf l).N a b + (Rep.colsOf l).N (b + 1) c ∧ (Rep.colsOf l).c0 a c = (Rep.colsOf l).c0 a b + (Rep.colsOf l).c0 (b + 1) c ∧ (Rep.colsOf l).c2 a c = (Rep.colsOf l).c2 a b + (Rep.colsOf l).c2 (b + 1) c) := Lib.hid (fun a b c h h' => ⟨by have := Rep.length_parts h h' l; show ((Rep.rows a c l).length : Int) = _; rw [this]; exact Int.natCast_add _ _, Rep.cols_parts h h' l _, Rep.cols_parts h h' l _⟩)
  have HBND : Hid (∀ a b : Int, (0 ≤ (Rep.colsOf l).N a b ∧ (Rep.colsOf l).N a b ≤ 60) ∧ (-67553994410557440 ≤ (Rep.colsOf l).c0 a b ∧ (Rep.colsOf l).c0 a b ≤ 67553994410557440) ∧ (-67553994410557440 ≤ (Rep.colsOf l).c2 a b ∧ (Rep.colsOf l).c2 a b ≤ 67553994410557440)) := Lib.hid (fun a b => by
    have hm := (Rep.rows_fine (a := a) (b := b) hf).1
    have hle := Rep.rows_length a b l
    have b0 := Post.colS_bound (·.a0) (fun p hp => (Post.may_each (hm p hp)).1)
    have b2 := Post.colS_bound (·.a2) (fun p hp => (Post.may_each (hm p hp)).2.2.1)
    refine ⟨⟨Int.natCast_nonneg _, by show ((Rep.rows a b l).length : Int) ≤ 60; omega⟩, ⟨?_, ?_⟩, ?_, ?_⟩
    · show _ ≤ Post.colS _ _; omega
    · show Post.colS _ _ ≤ _; omega
    · show _ ≤ Post.colS _ _; omega
    · show Post.colS _ _ ≤ _; omega)
  generalize Rep.colsOf l = F at *
  generalize hR : (fun a b => Rep.rows a b l) = RW at *
  have HRE : Hid (∀ a b, Rep.rows a b l = RW a b) := Lib.hid (fun a b => by rw [← hR])
  have hnl1 := hln.2.1; have hnl2 := hln.2.2; have hnc1 := hcn.2.1; have hnc2 := hcn.2.2
  have HCN := Lib.hid hcn.1
  unfold maxLen at hnc2
  clear hs hc hf hwf hln hcn hl60 hR
  go_enter Try.func4, Try.ntmps4
  go_wp2_with fail
  refine (HFN.out _ HPS.out).mono ?_
  rintro e w1 ⟨rfl, hb1⟩
  have HB1 := Lib.hid hb1
  clear hb1
  go_wp2_with fail
  refine (HMK.out from0 to0 (days_of.2 (by omega)) _ (HPS.out.below HB1.out)).mono ?_
  rintro e w2 ⟨r0, ha0, hb0, rfl, ho0, hbq⟩
  have th := there_row10 (new_row w2 (.cells #[.int .i64 0, .int .i64 0, .slice none 0 0, .int .i64 0, .int .i64 0, .int .i64 0, .int .i64 0, .int .i64 0, .int .i64 0, .int .i64 0] 43 (0, 0)) _ rfl) rfl
  have e1n := Rpr.cells_length F r0
  have e1c := Rpr.cells_all F r0
  have HBX := Lib.hid (boxR w2 F r0)
  have HB2 := Lib.hid (HB1.out.trans (hbq.mono HB1.out.size))
  have HO0 := Lib.hid (ho0.below HBX.out.2.1)
  have HA0 := Lib.hid ha0; have HB0 := Lib.hid hb0
  have HL0 := Lib.hid (fun g hg => (ho0.2 g hg).2)
  clear ho0 hbq ha0 hb0
  go_wp2_with fail
  clear th e1n e1c
  generalize hW3 : (w2.alloc (.cells #[.int .i64 0, .int .i64 0, .slice none 0 0, .int .i64 0, .int .i64 0, .int .i64 0, .int .i64 0, .int .i64 0, .int .i64 0, .int .i64 0] 43 (0, 0))).setCells w2.heap.size 0 (r0.cells F) = W3 at *
  have HB3 := Lib.hid (HB2.out.trans (HBX.out.2.1.mono HB2.out.size))
  have HR9 := Lib.hid HBX.out.1
  clear HB1 HB2 HBX hW3

  go_loopw [11, 12] (fun av pv wr => ∃ (t : Int) (ps : List Rpr), av = .int .i64 t ∧ t ≤ to0 + 1 ∧ Chain from0 t ps ∧ wr.ownsRow W3.heap.size 43 10 pv ps.length (encL (Rpr.cells F) ps) ∧ (∀ r ∈ ps, OneR RW W3.heap.size wr r ∧ ∀ g, r.v.ownBlock = some g → pv.ownBlock ≠ some g) ∧ (ps.length : Int) ≤ t - from0 ∧ Below W3.heap.size W3 wr) (fun av _ _ => (to0 + 1 - intOf av).toNat)
  case atStart => exact ⟨from0, [], rfl, by omega, rfl, World.ownsRow_nil _ _ _ _, by simp, by simp, Below.refl _ _⟩
  case round =>
    obtain ⟨t, ps, rfl, ht, hch, hown, hall, hlen, hbw⟩ := hrel
    have hft := hch.le
    have HBWW : Hid (W3.heap.size ≤ wr.heap.size) := Lib.hid hbw.size
    have HCH := Lib.hid hch; have HOW := Lib.hid hown; have HALL := Lib.hid hall; have HLEN := Lib.hid hlen; have HBW := Lib.hid hbw
    clear hch hown hall hlen hbw

    by_cases hlt : t ≤ to0
    · go_wp2_with fail
      generalize wr = W4 at *
      have HOWW : Hid (∀ g, u12.ownBlock = some g → g < W4.heap.size) := Lib.hid (fun g hg => (recs_base HOW.out hg).2)
      go_loopw [13, 14] (fun ev iv wr => ∃ (d : Int) (k : Nat), ev = .int .i64 d ∧ t ≤ d ∧ d ≤ to0 ∧ iv = .int .i64 k ∧ k ≤ nc ∧ Below W4.heap.size W4 wr) (fun _ i _ => nc - (intOf i).toNat)
      case atStart => exact ⟨to0, 0, rfl, by omega, by omega, rfl, Nat.zero_le _, Below.refl _ _⟩
      case round =>
        obtain ⟨d, k, rfl, hd1, hd2, rfl, hk, hbz⟩ := hrel
        have HBZ := Lib.hid hbz
        clear hbz
        by_cases hlk : k < nc
        · obtain ⟨y, hy⟩ : ∃ y, cu[k]? = some y := ⟨_, List.getElem?_eq_getElem (by have := HCN.out; omega)⟩
          obtain ⟨bc, oc, hpc, hbl, hr⟩ := (HCU.out.below (HB3.out.trans ((HBW.out.trans (HBZ.out.mono HBW.out.size)).mono HB3.out.size))).at hy
          subst hpc
          have c0 := hr 0 _ rfl
          simp only [Nat.mul_one, Nat.add_zero] at c0
          clear hr hy hbl
          by_cases hin1 : t ≤ y
          · by_cases hin2 : y < d
            · go_wp2_with fail
              go_roundw
              case rel => exact ⟨y, k + 1, rfl, hin1, by omega, by go_num, by omega, HBZ.out⟩
              case measure => simp [intOf]; omega
            · go_wp2_with fail
              go_roundw
              case rel => exact ⟨d, k + 1, rfl, hd1, hd2, by go_num, by omega, HBZ.out⟩
              case measure => simp [intOf]; omega
          · go_wp2_with fail
            go_roundw
            case rel => exact ⟨d, k + 1, rfl, hd1, hd2, by go_num, by omega, HBZ.out⟩
            case measure => simp [intOf]; omega
        · obtain rfl : k = nc := by omega
          go_wp2_with fail
          refine (HMK.out t d (days_of.2 (by omega)) _ (HPS.out.below (HB3.out.trans ((HBW.out.trans (HBZ.out.mono HBW.out.size)).mono HB3.out.size)))).mono ?_
          rintro e w6 ⟨r, hra, hrb, rfl, hro, hbq⟩
          have HBW := Lib.hid ((HBW.out.trans (HBZ.out.mono HBW.out.size)).trans (hbq.mono (Nat.le_trans HBW.out.size HBZ.out.size)))
          have HOW := Lib.hid (recs_below (recs_below HOW.out HBZ.out) hbq)
          have HALL : Hid (∀ r ∈ ps, OneR RW W3.heap.size w6 r ∧ ∀ g, r.v.ownBlock = some g → u12.ownBlock ≠ some g) := Lib.hid (fun r hr => ⟨((HALL.out r hr).1.below HBZ.out).below hbq, (HALL.out r hr).2⟩)
          have HPV : Hid (∀ g, u12.ownBlock = some g → g < wr.heap.size) := Lib.hid (fun g hg => by have := (recs_base HOW.out hg).2; have h2 := (HOWW.out g hg); exact Nat.lt_of_lt_of_le h2 HBZ.out.size)
          have HRO := Lib.hid hro; have HRA := Lib.hid hra; have HRB := Lib.hid hrb
          have HSZ6 : Hid (W3.heap.size ≤ wr.heap.size) := Lib.hid (Nat.le_trans HBWW.out HBZ.out.size)
          clear hro hbq hra hrb
          have th := there_row10 (new_row w6 (.cells #[.int .i64 0, .int .i64 0, .slice none 0 0, .int .i64 0, .int .i64 0, .int .i64 0, .int .i64 0, .int .i64 0, .int .i64 0, .int .i64 0] 43 (0, 0)) _ rfl) rfl
          have e1n := Rpr.cells_length F r
          have e1c := Rpr.cells_all F r
          have HBX := Lib.hid (boxR w6 F r)
          go_upto_region 18 with fail
          clear th e1n e1c
          generalize hW7 : (w6.alloc (.cells #[.int .i64 0, .int .i64 0, .slice none 0 0, .int .i64 0, .int .i64 0, .int .i64 0, .int .i64 0, .int .i64 0, .int .i64 0, .int .i64 0] 43 (0, 0))).setCells w6.heap.size 0 (r.cells F) = W7 at *
          have HBW := Lib.hid (HBW.out.trans (HBX.out.2.1.mono HBW.out.size))
          have HOW := Lib.hid (recs_below HOW.out HBX.out.2.1)
          have HALL : Hid (∀ r ∈ ps, OneR RW W3.heap.size W7 r ∧ ∀ g, r.v.ownBlock = some g → u12.ownBlock ≠ some g) := Lib.hid (fun r hr => ⟨(HALL.out r hr).1.below HBX.out.2.1, (HALL.out r hr).2⟩)
          have HRO2 : Hid (∀ g, r.v.ownBlock = some g → u12.ownBlock ≠ some g) := Lib.hid (fun g hg h2 => by have := (HRO.out.2 g hg).1; have := HPV.out g h2; omega); have HRO := Lib.hid ((HRO.out.lower HSZ6.out).below HBX.out.2.1)
          obtain ⟨f1, f2⟩ := row_loJ (cs := r.cells F) HBX.out.1 rfl
          clear HBX hW7
          unfold Rpr.cells at f1
          go_wp2_with (at_builtin; refine wpList_append_recs (elemR F) rfl _ _ rfl W3.heap.size _ ps.length ps rfl (recs_below HOW.out ((Below.refl _ _).alloc (Nat.le_refl _) (.cells #[.int .i64 r.a, .int .i64 r.b, .slice r.p r.k r.c, .int .i64 (F.N r.a r.b), .int .i64 (F.c0 r.a r.b), .int .i64 (F.c1 r.a r.b), .int .i64 (F.c2 r.a r.b), .int .i64 (F.c3 r.a r.b), .int .i64 (F.c4 r.a r.b), .int .i64 (F.c5 r.a r.b)] 43 (0, 0)))) _ [r] rfl (row_one (new_row W7 (.cells #[.int .i64 r.a, .int .i64 r.b, .slice r.p r.k r.c, .int .i64 (F.N r.a r.b), .int .i64 (F.c0 r.a r.b), .int .i64 (F.c1 r.a r.b), .int .i64 (F.c2 r.a r.b), .int .i64 (F.c3 r.a r.b), .int .i64 (F.c4 r.a r.b), .int .i64 (F.c5 r.a r.b)] 43 (0, 0)) _ rfl) rfl (Rpr.cells_length F) (by decide)) (by have := HLEN.out; simp; omega) (by have := HBW.out.size; simp; omega) ?_; intro v1 w9 hown1 hg1 hn1 hat1; replace hg1 : World.grownBy _ w9 u12.ownBlock := hg1; replace hat1 : v1.ownBlock = u12.ownBlock ∨ v1.ownBlock = some (World.alloc _ _).heap.size := hat1; have HG1 := Lib.hid hg1; have HAT1 := Lib.hid hat1; have HOW1 := Lib.hid hown1; clear hg1 hat1 hown1 hn1)
          have HBA := Lib.hid ((Below.refl W7.heap.size W7).alloc (Nat.le_refl _) (.cells #[.int .i64 r.a, .int .i64 r.b, .slice r.p r.k r.c, .int .i64 (F.N r.a r.b), .int .i64 (F.c0 r.a r.b), .int .i64 (F.c1 r.a r.b), .int .i64 (F.c2 r.a r.b), .int .i64 (F.c3 r.a r.b), .int .i64 (F.c4 r.a r.b), .int .i64 (F.c5 r.a r.b)] 43 (0, 0)))
          have key : ∀ q : Rpr, OneR RW W3.heap.size W7 q → (∀ g, q.v.ownBlock = some g → u12.ownBlock ≠ some g) → OneR RW W3.heap.size w9 q ∧ ∀ g, q.v.ownBlock = some g → v1.ownBlock ≠ some g := by
            intro q h1 h2
            refine ⟨(h1.below HBA.out).grown HG1.out h2, fun g hg e => ?_⟩
            rcases HAT1.out with h | h
            · exact h2 g hg (h.symm.trans e)
            · have := (h1.2 g hg).2
              rw [h] at e
              injection e with e
              simp at e
              omega
          refine ⟨⟨d + 1, ps ++ [r], rfl, by omega, ?_, ?_, ?_, ?_, ?_⟩, ?_⟩
          · have h := HCH.out.snoc HRA.out (by rw [HRB.out]; exact hd1)
            rw [HRB.out] at h
            exact h
          · rw [List.length_append]
            exact HOW1.out
          · intro q hq
            rcases List.mem_append.1 hq with h | h
            · exact key q (HALL.out q h).1 (HALL.out q h).2
            · rw [List.mem_singleton.1 h]
              exact key r HRO.out HRO2.out
          · rw [List.length_append]
            have := HLEN.out
            simp
            omega
          · exact (HBW.out.trans (HBA.out.mono HBW.out.size)).grown HG1.out (by have := HBW.out.size; simp; omega) (fun b hb => (recs_base HOW.out hb).1)
          · simp [intOf]; omega
    · obtain rfl : t = to0 + 1 := by omega
      have hls := LS.of_own HOW.out (Rpr.cells_length F) (by decide)
      obtain ⟨pp, cp, hpv⟩ := hls.shape
      subst hpv
      have hlen2 : ps.length ≤ 1000001 := by have := HLEN.out; omega
      obtain ⟨m, hm⟩ : ∃ m, ps.length = m + 1 := by
        cases ps with
        | nil => have := HCH.out; unfold Chain at this; omega
        | cons a q => exact ⟨q.length, rfl⟩
      obtain ⟨r1, hr1⟩ : ∃ r, ps[0]? = some r := ⟨_, List.getElem?_eq_getElem (by omega)⟩
      obtain ⟨bp, op, hpp, hbl, hr⟩ := hls.at hr1
      subst hpp
      rw [Nat.zero_mul, Nat.add_zero] at hr
      obtain ⟨f1, f2⟩ := loL_of hr (Rpr.cells_length F r1)
      rw [hm] at hls hlen2 HALL ⊢
      have HLS := Lib.hid hls; have HM := Lib.hid hm; have HR1 := Lib.hid hr1
      have hm6 : m ≤ 1000000 := by omega
      clear hls hlen2 hm hr hr1 HOW
      have th := there_row10 (new_row wr (.cells #[.int .i64 0, .int .i64 0, .slice none 0 0, .int .i64 0, .int .i64 0, .int .i64 0, .int .i64 0, .int .i64 0, .int .i64 0, .int .i64 0] 43 (0, 0)) _ rfl) rfl
      have HBX := Lib.hid (boxR wr F r1)
      have e1n := Rpr.cells_length F r1
      have e1c := Rpr.cells_all F r1
      go_wp2_with fail
      clear th f1 f2 e1n e1c
      generalize hW5 : (wr.alloc (.cells #[.int .i64 0, .int .i64 0, .slice none 0 0, .int .i64 0, .int .i64 0, .int .i64 0, .int .i64 0, .int .i64 0, .int .i64 0, .int .i64 0] 43 (0, 0))).setCells wr.heap.size 0 (r1.cells F) = W5 at *
      have HLS := Lib.hid (HLS.out.below HBX.out.2.1)
      have HBP : Hid (bp < wr.heap.size) := Lib.hid hbl
      have HALL : Hid (∀ r ∈ ps, OneR RW W3.heap.size W5 r ∧ r.v.ownBlock ≠ some wr.heap.size) := Lib.hid (fun r hr => ⟨(HALL.out r hr).1.below HBX.out.2.1, fun e => by have := ((HALL.out r hr).1.2 _ e).2; omega⟩)
      have HBW := Lib.hid (HBW.out.trans (HBX.out.2.1.mono HBW.out.size))
      have HR17 := Lib.hid HBX.out.1
      have HG17 : Hid (W3.heap.size ≤ wr.heap.size ∧ wr.heap.size < W5.heap.size) := Lib.hid ⟨HBWW.out, block_lt HR17.out⟩
      clear HBX hW5 hbl
      generalize wr.heap.size = g17 at *
      clear HBWW
      have HC1 := Lib.hid (HCH.out.take HR1.out)
      have HR1L : Hid (r1.a = from0) := Lib.hid (by have := HC1.out.1; simp at this; unfold Chain at this; exact this.symm)
      go_loopw [18] (fun iv wr => ∃ (k : Nat) (L : Rpr), iv = .int .i64 k ∧ 1 ≤ k ∧ k ≤ m + 1 ∧ L.a = from0 ∧ from0 ≤ L.b ∧ Chain from0 (L.b + 1) (ps.take k) ∧ Only g17 W5 wr ∧ wr.heap[g17]? = some (.cells (L.cells F).toArray 43 (0, 0)) ∧ OneR RW 0 wr L ∧ L.v.ownBlock ≠ some g17) (fun iv _ => m + 1 - (intOf iv).toNat)
      case atStart =>
        refine ⟨1, r1, rfl, Nat.le_refl _, by omega, HR1L.out, ?_, ?_, Only.refl _ _, HR17.out, (HALL.out r1 (List.mem_of_getElem? HR1.out)).1.lower (Nat.zero_le _), (HALL.out r1 (List.mem_of_getElem? HR1.out)).2⟩
        · have := HC1.out.2.1; rw [HR1L.out] at this; exact this
        · have h := HC1.out.1.snoc rfl HC1.out.2.1
          rw [← take_snR HR1.out] at h
          exact h
      case round =>
        obtain ⟨kk, L, rfl, hk1, hk2, hLa, hLb, hLc, hO, hrow, hone, hoff⟩ := hrel
        have HLC := Lib.hid hLc; have HO := Lib.hid hO; have HRL := Lib.hid hrow; have HLL := Lib.hid hone; have HOFF := Lib.hid hoff; have HLA := Lib.hid hLa; have HLB := Lib.hid hLb
        clear hLc hO hrow hone hoff hLa hLb
        by_cases hlt : kk < m + 1
        · obtain ⟨y, hy⟩ : ∃ y, ps[kk]? = some y := ⟨_, List.getElem?_eq_getElem (by have := HM.out; omega)⟩
          have hq := HCH.out.take hy
          have hya : y.a = L.b + 1 := hq.1.only HLC.out
          have HQ1 : Hid (0 ≤ L.a) := Lib.hid (by have := HLA.out; omega)
          have HQ2 : Hid (L.a ≤ L.b) := Lib.hid (by have := HLA.out; have := HLB.out; omega)
          have HQ3 := Lib.hid hya
          have HQ4 := Lib.hid hq.2.1
          have HQ5 : Hid (y.b ≤ 1000000) := Lib.hid (by have := hq.2.2.2.2; omega)
          have HPW := Lib.hid (HLS.out.onlyR HO.out (fun e => by injection e with e; have e : bp = g17 := e; have := HBP.out; omega))
          have HYW := Lib.hid (((HALL.out y (List.mem_of_getElem? hy)).1.only HO.out (HALL.out y (List.mem_of_getElem? hy)).2))
          have HY := Lib.hid hy; have HQ6 := Lib.hid hq.1
          clear hq hya hy
          go_upto_region 24 with fail
          have hqd : decide ((kk : Int) < (m : Int) + 1) = true := by simp; omega
          simp only [hqd]
          clear hqd
          refine wp_region_box 10 (T := fun A B => Below A.heap.size A B) (G := fun W => Below wr.heap.size wr W) (R := fun k => match k with | 0 => fun v _ => v = .agg (L.cells F).toArray | 1 => fun v _ => v = .slice (some ⟨bp, op, none⟩) (m + 1) cp | 2 => fun v _ => v = .int .i64 kk | 3 => fun v _ => v = .pointer (some ⟨bp, op + kk * 10, none⟩) | 4 => fun v _ => v = .agg (y.cells F).toArray | 5 => fun v W => ∃ t : Rpr, t.a = L.a ∧ t.b = y.b ∧ v = .tuple #[.agg (t.cells F).toArray, .int .i64 0] ∧ Mine Pst.cells 10 W wr.heap.size t.v (RW t.a t.b) | 6 => fun v W => ∃ t : Rpr, t.a = L.a ∧ t.b = y.b ∧ v = .tuple #[.agg (t.cells F).toArray, .int .i64 0] ∧ Mine Pst.cells 10 W wr.heap.size t.v (RW t.a t.b) | 7 => fun v W => ∃ t : Rpr, t.a = L.a ∧ t.b = y.b ∧ v = .agg (t.cells F).toArray ∧ Mine Pst.cells 10 W wr.heap.size t.v (RW t.a t.b) | 8 => fun v _ => v = .int .i64 0 | 9 => fun v W => ∃ N : Nat, v = .pointer (some ⟨N, 0, none⟩) ∧ wr.heap.size ≤ N ∧ W.heap[N]? = some (.cells #[.int .i64 0, .int .i64 0, .slice none 0 0, .int .i64 0, .int .i64 0, .int .i64 0, .int .i64 0, .int .i64 0, .int .i64 0, .int .i64 0] 43 (0, 0)) | 10 => fun _ _ => True | 11 => fun v _ => v = .int .i64 0 | _ => fun _ _ => True) (E := fun k => match k with | 0 => fun v => v = .agg (L.cells F).toArray | 1 => fun v => v = .slice (some ⟨bp, op, none⟩) (m + 1) cp | 2 => fun v => v = .int .i64 kk | 3 => fun v => v = .pointer (some ⟨bp, op + kk * 10, none⟩) | 4 => fun v => v = .agg (y.cells F).toArray | 5 => fun _ => True | 6 => fun v => ∃ t : Rpr, v = .tuple #[.agg (t.cells F).toArray, .int .i64 0] | 7 => fun _ => True | 8 => fun v => v = .int .i64 0 | 9 => fun _ => True | 10 => fun _ => True | 11 => fun v => v = .int .i64 0 | _ => fun _ => True) (Fin := fun f W => ∃ (N : Nat) (t : Rpr), f 9 = .pointer (some ⟨N, 0, none⟩) ∧ wr.heap.size ≤ N ∧ t.a = L.a ∧ t.b = y.b ∧ W.heap[N]? = some (.cells (t.cells F).toArray 43 (0, 0)) ∧ OneR RW wr.heap.size W t ∧ Below wr.heap.size wr W) (by kernel_rfl) (by kernel_rfl) (by kernel_rfl) ?iL ?iT ?iRE ?iER ?iF ((Below.refl _ _).drew) ?iS ?iD
          case iL => decide
          case iT =>
            intro k v A B hT h
            match k, h with
            | 0, h => exact h
            | 1, h => exact h
            | 2, h => exact h
            | 3, h => exact h
            | 4, h => exact h
            | 5, h => exact (by obtain ⟨t, h1, h2, h3, h4⟩ := h; exact ⟨t, h1, h2, h3, h4.below hT⟩)
            | 6, h => exact (by obtain ⟨t, h1, h2, h3, h4⟩ := h; exact ⟨t, h1, h2, h3, h4.below hT⟩)
            | 7, h => exact (by obtain ⟨t, h1, h2, h3, h4⟩ := h; exact ⟨t, h1, h2, h3, h4.below hT⟩)
            | 8, h => exact h
            | 9, h => exact (by obtain ⟨N, e, hN, hr⟩ := h; exact ⟨N, e, hN, (hT.block _ (block_lt hr)).trans hr⟩)
            | 10, h => exact h
            | 11, h => exact h
            | _ + 12, h => exact trivial
          case iRE =>
            intro k v W h
            match k, h with
            | 0, h => exact h
            | 1, h => exact h
            | 2, h => exact h
            | 3, h => exact h
            | 4, h => exact h
            | 5, h => exact trivial
            | 6, h => exact (by obtain ⟨t, h1, h2, h3, h4⟩ := h; exact ⟨t, h3⟩)
            | 7, h => exact trivial
            | 8, h => exact h
            | 9, h => exact trivial
            | 10, h => exact trivial
            | 11, h => exact h
            | _ + 12, h => exact trivial
          case iER =>
            intro k v W hk hw h
            match k, hk, hw, h with
            | 0, _, hw, _ => exact no_ft hw (by kernel_rfl)
            | 1, _, hw, _ => exact no_ft hw (by kernel_rfl)
            | 2, _, hw, _ => exact no_ft hw (by kernel_rfl)
            | 3, _, hw, _ => exact no_ft hw (by kernel_rfl)
            | 4, _, hw, _ => exact no_ft hw (by kernel_rfl)
            | 5, _, hw, _ => exact no_ft hw (by kernel_rfl)
            | 6, _, hw, _ => exact no_ft hw (by kernel_rfl)
            | 7, _, hw, _ => exact no_ft hw (by kernel_rfl)
            | 8, _, _, h => exact h
            | 9, _, hw, _ => exact no_ft hw (by kernel_rfl)
            | 10, hk, _, _ => exact absurd rfl hk
            | 11, _, _, h => exact h
            | _ + 12, _, _, h => exact trivial
          case iF =>
            intro f g W h hF
            obtain ⟨N, t, h1, h2⟩ := hF
            exact ⟨N, t, (h 9 (by kernel_rfl)).symm.trans h1, h2⟩
          case iS =>
            refine StepsB.consR (by decide) (by kernel_rfl) ?s0 (StepsB.consR (by decide) (by kernel_rfl) ?s1 (StepsB.consR (by decide) (by kernel_rfl) ?s2 (StepsB.consR (by decide) (by kernel_rfl) ?s3 (StepsB.consR (by decide) (by kernel_rfl) ?s4 (StepsB.consR (by decide) (by kernel_rfl) ?s5 (StepsB.consR (by decide) (by kernel_rfl) ?s6 (StepsB.consR (by decide) (by kernel_rfl) ?s7 (StepsB.consE (by decide) (by kernel_rfl) ?s8 (StepsB.consR (by decide) (by kernel_rfl) ?s9 (StepsB.consS (by decide) ?s10 (StepsB.consE (by decide) (by kernel_rfl) ?s11 (trivial))))))))))))
            case s0 =>
              intro f W hG hW K hK
              try dsimp only at hG
              simp only [putF, Act.put, List.setIfInBounds_toArray, List.set_cons_zero, List.set_cons_succ, Nat.reduceAdd, Nat.zero_add] at hK ⊢
              have hrw := (hG.block g17 (block_lt HRL.out)).trans HRL.out
              obtain ⟨f1, f2⟩ := row_loJ (cs := L.cells F) hrw rfl
              clear hW
              go_simp
              refine hK.out _ _ (Below.refl _ _) hG ?_
              first | with_reducible rfl | rfl
            case s1 =>
              intro f W hG hW K hK
              try dsimp only at hG
              simp only [putF, Act.put, List.setIfInBounds_toArray, List.set_cons_zero, List.set_cons_succ, Nat.reduceAdd, Nat.zero_add] at hK ⊢
              clear hW
              go_simp
              refine hK.out _ _ (Below.refl _ _) hG ?_
              first | with_reducible rfl | rfl
            case s2 =>
              intro f W hG hW K hK
              try dsimp only at hG
              simp only [putF, Act.put, List.setIfInBounds_toArray, List.set_cons_zero, List.set_cons_succ, Nat.reduceAdd, Nat.zero_add] at hK ⊢
              clear hW
              go_simp
              refine hK.out _ _ (Below.refl _ _) hG ?_
              first | with_reducible rfl | rfl
            case s3 =>
              intro f W hG hW K hK
              try dsimp only at hG
              have e1 := hW 1 (by kernel_rfl)
              change f 1 = .slice (some ⟨bp, op, none⟩) (m + 1) cp at e1
              have e2 := hW 2 (by kernel_rfl)
              change f 2 = .int .i64 kk at e2
              simp only [putF, Act.put, List.setIfInBounds_toArray, List.set_cons_zero, List.set_cons_succ, Nat.reduceAdd, Nat.zero_add] at hK ⊢
              (try rw [e1])
              (try rw [e1] at hK)
              (try rw [e2])
              (try rw [e2] at hK)
              clear hW
              go_simp
              refine hK.out _ _ (Below.refl _ _) hG ?_
              first | with_reducible rfl | rfl
            case s4 =>
              intro f W hG hW K hK
              try dsimp only at hG
              have e3 := hW 3 (by kernel_rfl)
              change f 3 = .pointer (some ⟨bp, op + kk * 10, none⟩) at e3
              simp only [putF, Act.put, List.setIfInBounds_toArray, List.set_cons_zero, List.set_cons_succ, Nat.reduceAdd, Nat.zero_add] at hK ⊢
              (try rw [e3])
              (try rw [e3] at hK)
              obtain ⟨b9, o9, e9, -, hr9⟩ := (HPW.out.below hG).at HY.out
              have e10 : bp = b9 ∧ op = o9 := by injection e9 with e9; injection e9 with e9 e8; exact ⟨e9, e8⟩
              obtain ⟨rfl, rfl⟩ := e10
              obtain ⟨f1, f2⟩ := loL_of hr9 (Rpr.cells_length F y)
              clear hW
              go_simp
              refine hK.out _ _ (Below.refl _ _) hG ?_
              first | with_reducible rfl | rfl
            case s5 =>
              intro f W hG hW K hK
              try dsimp only at hG
              have e0 := hW 0 (by kernel_rfl)
              change f 0 = .agg (L.cells F).toArray at e0
              have e4 := hW 4 (by kernel_rfl)
              change f 4 = .agg (y.cells F).toArray at e4
              simp only [putF, Act.put, List.setIfInBounds_toArray, List.set_cons_zero, List.set_cons_succ, Nat.reduceAdd, Nat.zero_add] at hK ⊢
              (try rw [e0])
              (try rw [e0] at hK)
              (try rw [e4])
              (try rw [e4] at hK)
              clear hW
              go_simp
              refine (HJN.out L y HQ1.out HQ2.out HQ3.out HQ4.out HQ5.out W (by rw [HRE.out]; exact HLL.out.1.below hG) (by rw [HRE.out]; exact HYW.out.1.below hG)).mono ?_
              rintro e w' ⟨t, h1, h2, rfl, hm, hb⟩
              rw [HRE.out] at hm
              exact hK.out _ _ hb (hG.trans (hb.mono hG.size)) ⟨t, h1, h2, rfl, mineLower hm hG.size⟩
            case s6 =>
              intro f W hG hW K hK
              try dsimp only at hG
              have e5 := hW 5 (by kernel_rfl)
              try dsimp only at e5
              simp only [putF, Act.put, List.setIfInBounds_toArray, List.set_cons_zero, List.set_cons_succ, Nat.reduceAdd, Nat.zero_add] at hK ⊢
              obtain ⟨t, h1, h2, h3, h4⟩ := e5
              simp only [h3] at hK ⊢
              clear hW
              go_simp
              refine hK.out _ _ (Below.refl _ _) hG ?_
              exact ⟨t, h1, h2, rfl, h4⟩
            case s7 =>
              intro f W hG hW K hK
              try dsimp only at hG
              have e6 := hW 6 (by kernel_rfl)
              try dsimp only at e6
              simp only [putF, Act.put, List.setIfInBounds_toArray, List.set_cons_zero, List.set_cons_succ, Nat.reduceAdd, Nat.zero_add] at hK ⊢
              obtain ⟨t, h1, h2, h3, h4⟩ := e6
              simp only [h3] at hK ⊢
              clear hW
              go_simp
              refine hK.out _ _ (Below.refl _ _) hG ?_
              exact ⟨t, h1, h2, rfl, h4⟩
            case s8 =>
              intro f W hW K hK
              have e6 := hW 6 (by kernel_rfl)
              try dsimp only at e6
              simp only [putF, Act.put, List.setIfInBounds_toArray, List.set_cons_zero, List.set_cons_succ, Nat.reduceAdd, Nat.zero_add] at hK ⊢
              obtain ⟨t, h3⟩ := e6
              simp only [h3] at hK ⊢
              clear hW
              go_simp
              refine hK.out _ _ rfl ?_
              first | with_reducible rfl | rfl
            case s9 =>
              intro f W hG hW K hK
              try dsimp only at hG
              simp only [putF, Act.put, List.setIfInBounds_toArray, List.set_cons_zero, List.set_cons_succ, Nat.reduceAdd, Nat.zero_add] at hK ⊢
              clear hW
              go_simp
              refine hK.out _ _ ((Below.refl _ _).alloc (Nat.le_refl _) _) (hG.alloc hG.size _) ?_
              exact ⟨W.heap.size, rfl, hG.size, new_row _ _ _ rfl⟩
            case s10 =>
              intro f W hG hW K hK
              try dsimp only at hG
              have e0 := hW 0 (by kernel_rfl)
              change f 0 = .agg (L.cells F).toArray at e0
              have e1 := hW 1 (by kernel_rfl)
              change f 1 = .slice (some ⟨bp, op, none⟩) (m + 1) cp at e1
              have e2 := hW 2 (by kernel_rfl)
              change f 2 = .int .i64 kk at e2
              have e3 := hW 3 (by kernel_rfl)
              change f 3 = .pointer (some ⟨bp, op + kk * 10, none⟩) at e3
              have e4 := hW 4 (by kernel_rfl)
              change f 4 = .agg (y.cells F).toArray at e4
              have e5 := hW 5 (by kernel_rfl)
              try dsimp only at e5
              have e6 := hW 6 (by kernel_rfl)
              try dsimp only at e6
              have e7 := hW 7 (by kernel_rfl)
              try dsimp only at e7
              have e9 := hW 9 (by kernel_rfl)
              try dsimp only at e9
              simp only [putF, Act.put, List.setIfInBounds_toArray, List.set_cons_zero, List.set_cons_succ, Nat.reduceAdd, Nat.zero_add] at hK ⊢
              (try rw [e0])
              (try rw [e0] at hK)
              (try rw [e1])
              (try rw [e1] at hK)
              (try rw [e2])
              (try rw [e2] at hK)
              (try rw [e3])
              (try rw [e3] at hK)
              (try rw [e4])
              (try rw [e4] at hK)
              obtain ⟨t, h1, h2, h3, h4⟩ := e7
              have H1 := Lib.hid h1; have H2 := Lib.hid h2; clear h1 h2
              obtain ⟨N, hN, hNB, hcr⟩ := e9
              have hfN := hN
              simp only [h3, hN] at hK ⊢
              have th := there_row10 hcr rfl
              have e1n := Rpr.cells_length F t
              have e1c := Rpr.cells_all F t
              have ho := (Only.refl N W).setCells 0 (t.cells F)
              have hl4 := h4.offR hcr ho
              have HNB := Lib.hid hNB; have HCR := Lib.hid hcr; have HO4 := Lib.hid ho; have HL4 := Lib.hid hl4
              clear hW hNB hcr ho hl4
              go_simp
              refine hK.out undef _ trivial ?_
              exact ⟨N, t, rfl, HNB.out, H1.out, H2.out, setCells_rowA HCR.out rfl, ⟨HL4.out, fun g hg => ⟨(h4.inR g hg).1, Nat.lt_of_lt_of_le (h4.inR g hg).2 HO4.out.size⟩⟩, Only.below hG HNB.out hG.size HO4.out⟩
            case s11 =>
              intro f W hW K hK
              have e0 := hW 0 (by kernel_rfl)
              change f 0 = .agg (L.cells F).toArray at e0
              have e1 := hW 1 (by kernel_rfl)
              change f 1 = .slice (some ⟨bp, op, none⟩) (m + 1) cp at e1
              have e2 := hW 2 (by kernel_rfl)
              change f 2 = .int .i64 kk at e2
              have e3 := hW 3 (by kernel_rfl)
              change f 3 = .pointer (some ⟨bp, op + kk * 10, none⟩) at e3
              have e4 := hW 4 (by kernel_rfl)
              change f 4 = .agg (y.cells F).toArray at e4
              have e6 := hW 6 (by kernel_rfl)
              try dsimp only at e6
              have e8 := hW 8 (by kernel_rfl)
              change f 8 = .int .i64 0 at e8
              simp only [putF, Act.put, List.setIfInBounds_toArray, List.set_cons_zero, List.set_cons_succ, Nat.reduceAdd, Nat.zero_add] at hK ⊢
              (try rw [e0])
              (try rw [e0] at hK)
              (try rw [e1])
              (try rw [e1] at hK)
              (try rw [e2])
              (try rw [e2] at hK)
              (try rw [e3])
              (try rw [e3] at hK)
              (try rw [e4])
              (try rw [e4] at hK)
              (try rw [e8])
              (try rw [e8] at hK)
              clear hW
              go_simp
              refine hK.out _ _ rfl ?_
              first | exact trivial | with_reducible rfl | rfl
          case iD =>
            intro f W hF hE
            have r8 := hE 8 (by decide)
            change f 8 = .int .i64 0 at r8
            have r11 := hE 11 (by decide)
            change f 11 = .int .i64 0 at r11
            have r0 := hE 0 (by decide)
            change f 0 = .agg (L.cells F).toArray at r0
            have r1 := hE 1 (by decide)
            change f 1 = .slice (some ⟨bp, op, none⟩) (m + 1) cp at r1
            have r2 := hE 2 (by decide)
            change f 2 = .int .i64 kk at r2
            have r3 := hE 3 (by decide)
            change f 3 = .pointer (some ⟨bp, op + kk * 10, none⟩) at r3
            have r4 := hE 4 (by decide)
            change f 4 = .agg (y.cells F).toArray at r4
            clear hE
            simp only [putF, Act.put, List.setIfInBounds_toArray, List.set_cons_zero, List.set_cons_succ, Nat.reduceAdd, Nat.zero_add]
            (try rw [r8])
            (try rw [r11])
            (try rw [r0])
            (try rw [r1])
            (try rw [r2])
            (try rw [r3])
            (try rw [r4])
            obtain ⟨N, z, hfN, hNB, hza, hzb, hrow, hone, hbb⟩ := hF
            rw [hfN]
            have HNB := Lib.hid hNB; have HZA := Lib.hid hza; have HZB := Lib.hid hzb; have HRN := Lib.hid hrow; have HON := Lib.hid hone; have HBB := Lib.hid hbb
            clear hfN hNB hza hzb hrow hone hbb r0 r1 r2 r3 r4 r8 r11
            generalize W = w7 at *
            have HGW : Hid (g17 < wr.heap.size) := Lib.hid (Nat.lt_of_lt_of_le HG17.out.2 HO.out.size)
            have HRL := Lib.hid ((HBB.out.block _ (block_lt HRL.out)).trans HRL.out)
            have HO := Lib.hid (HO.out.trans (Only.of_below HBB.out))
            have HLL := Lib.hid (HLL.out.below HBB.out)
            have HPW := Lib.hid (HPW.out.below HBB.out); have HYW := Lib.hid (HYW.out.below HBB.out)
            have k1 : w7.cell? ⟨g17, 1, none⟩ = some (.int .i64 L.b) := cell_of_row w7 g17 1 _ _ _ HRL.out
            obtain ⟨f1, f2⟩ := row_loJ (cs := z.cells F) HRN.out rfl
            clear HBB
            go_wp2_with fail
            clear f1 f2 k1
            refine (HSP.out z L.b (by rw [HZA.out]; exact HQ1.out) (by rw [HZA.out]; exact HQ2.out) (by rw [HZB.out]; have := HQ3.out; have := HQ4.out; omega) (by rw [HZB.out]; exact HQ5.out) w7 (by rw [HRE.out]; exact HON.out.1)).mono ?_
            rintro e w8 ⟨su, sv, hua, hub, hva, hvb, rfl, hlu, hlv, hb8⟩
            have HUA := Lib.hid hua; have HUB := Lib.hid hub; have HVA := Lib.hid hva; have HVB := Lib.hid hvb; have HLU := Lib.hid hlu; have HLV := Lib.hid hlv; have HBB := Lib.hid hb8
            clear hua hub hva hvb hlu hlv hb8
            have HRL := Lib.hid ((HBB.out.block _ (block_lt HRL.out)).trans HRL.out); have HRN := Lib.hid ((HBB.out.block _ (block_lt HRN.out)).trans HRN.out)
            have HO := Lib.hid (HO.out.trans (Only.of_below HBB.out))
            have HLL := Lib.hid (HLL.out.below HBB.out); have HON := Lib.hid (HON.out.below HBB.out)
            have HPW := Lib.hid (HPW.out.below HBB.out); have HYW := Lib.hid (HYW.out.below HBB.out)
            have t1 := there_row10 (row_alloc (new_row w8 (.cells #[.int .i64 0, .int .i64 0, .slice none 0 0, .int .i64 0, .int .i64 0, .int .i64 0, .int .i64 0, .int .i64 0, .int .i64 0, .int .i64 0] 43 (0, 0)) _ rfl) (.cells #[.int .i64 0, .int .i64 0, .slice none 0 0, .int .i64 0, .int .i64 0, .int .i64 0, .int .i64 0, .int .i64 0, .int .i64 0, .int .i64 0] 43 (0, 0))) rfl
            have t2 := there_row10 (new_row (w8.alloc (.cells #[.int .i64 0, .int .i64 0, .slice none 0 0, .int .i64 0, .int .i64 0, .int .i64 0, .int .i64 0, .int .i64 0, .int .i64 0, .int .i64 0] 43 (0, 0))) (.cells #[.int .i64 0, .int .i64 0, .slice none 0 0, .int .i64 0, .int .i64 0, .int .i64 0, .int .i64 0, .int .i64 0, .int .i64 0, .int .i64 0] 43 (0, 0)) (w8.heap.size + 1) (by simp)) rfl
            have e1n := Rpr.cells_length F su
            have e1c := Rpr.cells_all F su
            have e2n := Rpr.cells_length F sv
            have e2c := Rpr.cells_all F sv
            obtain ⟨hx0, hx1, hbq⟩ := boxR2 w8 F su sv _ rfl
            have HU := Lib.hid hx0; have HV := Lib.hid hx1; have HBB := Lib.hid hbq
            clear hx0 hx1 hbq
            go_upto_region 28 with fail
            clear t1 t2 e1n e1c e2n e2c
            generalize (((w8.alloc (.cells #[.int .i64 0, .int .i64 0, .slice none 0 0, .int .i64 0, .int .i64 0, .int .i64 0, .int .i64 0, .int .i64 0, .int .i64 0, .int .i64 0] 43 (0, 0))).alloc (.cells #[.int .i64 0, .int .i64 0, .slice none 0 0, .int .i64 0, .int .i64 0, .int .i64 0, .int .i64 0, .int .i64 0, .int .i64 0, .int .i64 0] 43 (0, 0))).setCells w8.heap.size 0 (su.cells F)).setCells (w8.heap.size + 1) 0 (sv.cells F) = W8 at *
            have HRL := Lib.hid ((HBB.out.block _ (block_lt HRL.out)).trans HRL.out); have HRN := Lib.hid ((HBB.out.block _ (block_lt HRN.out)).trans HRN.out)
            have HO := Lib.hid (HO.out.trans (Only.of_below HBB.out))
            have HLL := Lib.hid (HLL.out.below HBB.out); have HON := Lib.hid (HON.out.below HBB.out)
            have HPW := Lib.hid (HPW.out.below HBB.out); have HYW := Lib.hid (HYW.out.below HBB.out)
            have HLU := Lib.hid (HLU.out.below HBB.out); have HLV := Lib.hid (HLV.out.below HBB.out)
            clear HBB
            have HRY : Hid (w8.heap.size ≤ w8.heap.size ∧ W8.rangeAt bp (op + kk * 10) (y.cells F)) := Lib.hid (by
              obtain ⟨b9, o9, e9, -, hr9⟩ := HPW.out.at HY.out
              have e10 : bp = b9 ∧ op = o9 := by injection e9 with e9; injection e9 with e9 e8; exact ⟨e9, e8⟩
              obtain ⟨rfl, rfl⟩ := e10
              exact ⟨Nat.le_refl _, hr9⟩)
            have HBP8 : Hid (bp < W8.heap.size) := Lib.hid (by have := HBP.out; have := HG17.out.2; have := HO.out.size; omega)
            generalize w8.heap.size = gu at *
            have rr : ∀ (u : Later W8) (j : Nat), u.val.cell? ⟨bp, op + kk * 10 + j, none⟩ = W8.cell? ⟨bp, op + kk * 10 + j, none⟩ := fun u j => u.cell bp _ HBP8.out
            have rg : ∀ (u : Later W8), u.val.rangeAt bp (op + kk * 10) (y.cells F) := fun u j v hv => (rr u j).trans (HRY.out.2 j v hv)
            have ru := fun (u : Later W8) => row_loJ (cs := su.cells F) ((u.prop.block _ (block_lt HU.out)).trans HU.out) rfl
            have rv := fun (u : Later W8) => row_loJ (cs := sv.cells F) ((u.prop.block _ (block_lt HV.out)).trans HV.out) rfl
            have rl := fun (u : Later W8) => row_loJ (cs := L.cells F) ((u.prop.block _ (block_lt HRL.out)).trans HRL.out) rfl
            have ry := fun (u : Later W8) => loL_of (rg u) (Rpr.cells_length F y)
            have ru1 := fun u => (ru u).1; have ru2 := fun u => (ru u).2; have rv1 := fun u => (rv u).1; have rv2 := fun u => (rv u).2
            have rl1 := fun u => (rl u).1; have rl2 := fun u => (rl u).2; have ry1 := fun u => (ry u).1; have ry2 := fun u => (ry u).2
            have HC1 := Lib.hid (fun (q : Later W8) => sameF_any F su L (HUA.out.trans HZA.out) HUB.out (RW L.a L.b) q.val (by have h := HLU.out; rw [HUA.out, HUB.out, HZA.out, HRE.out] at h; exact h.below q.prop) (HLL.out.1.below q.prop))
            have HC2 := Lib.hid (fun (q : Later W8) => sameF_any F sv y (by rw [HVA.out, HQ3.out]) (HVB.out.trans HZB.out) (RW y.a y.b) q.val (by have h := HLV.out; rw [HVA.out, HVB.out, HZB.out, ← HQ3.out, HRE.out] at h; exact h.below q.prop) (HYW.out.1.below q.prop))
            have hadd := HADD.out L.a L.b y.b (by have := HQ2.out; omega) (by have := HQ3.out; have := HQ4.out; omega)
            have hb1 := HBND.out L.a L.b
            have hb2 := HBND.out (L.b + 1) y.b
            have kz : ∀ (q : Later W8) (j : Nat), q.val.cell? ⟨N, j, none⟩ = (z.cells F).toArray[j]? := fun q j => cell_of_row _ N j _ _ _ ((q.prop.block _ (block_lt HRN.out)).trans HRN.out)
            have kl : ∀ (q : Later W8) (j : Nat), q.val.cell? ⟨g17, j, none⟩ = (L.cells F).toArray[j]? := fun q j => cell_of_row _ g17 j _ _ _ ((q.prop.block _ (block_lt HRL.out)).trans HRL.out)
            have kz3 : ∀ q : Later W8, q.val.cell? ⟨N, 3, none⟩ = some (.int .i64 (F.N L.a L.b + F.N (L.b + 1) y.b)) := fun q => (kz q 3).trans (by rw [← hadd.1, ← HZA.out, ← HZB.out]; rfl)
            have kz4 : ∀ q : Later W8, q.val.cell? ⟨N, 4, none⟩ = some (.int .i64 (F.c0 L.a L.b + F.c0 (L.b + 1) y.b)) := fun q => (kz q 4).trans (by rw [← hadd.2.1, ← HZA.out, ← HZB.out]; rfl)
            have kz6 : ∀ q : Later W8, q.val.cell? ⟨N, 6, none⟩ = some (.int .i64 (F.c2 L.a L.b + F.c2 (L.b + 1) y.b)) := fun q => (kz q 6).trans (by rw [← hadd.2.2, ← HZA.out, ← HZB.out]; rfl)
            have kl3 : ∀ q : Later W8, q.val.cell? ⟨g17, 3, none⟩ = some (.int .i64 (F.N L.a L.b)) := fun q => kl q 3
            have kl4 : ∀ q : Later W8, q.val.cell? ⟨g17, 4, none⟩ = some (.int .i64 (F.c0 L.a L.b)) := fun q => kl q 4
            have kl6 : ∀ q : Later W8, q.val.cell? ⟨g17, 6, none⟩ = some (.int .i64 (F.c2 L.a L.b)) := fun q => kl q 6
            have ky3 : ∀ q : Later W8, q.val.cell? ⟨bp, op + kk * 10 + 3, none⟩ = some (.int .i64 (F.N (L.b + 1) y.b)) := fun q => by rw [← HQ3.out]; exact rg q 3 _ rfl
            have ky4 : ∀ q : Later W8, q.val.cell? ⟨bp, op + kk * 10 + 4, none⟩ = some (.int .i64 (F.c0 (L.b + 1) y.b)) := fun q => by rw [← HQ3.out]; exact rg q 4 _ rfl
            have ky6 : ∀ q : Later W8, q.val.cell? ⟨bp, op + kk * 10 + 6, none⟩ = some (.int .i64 (F.c2 (L.b + 1) y.b)) := fun q => by rw [← HQ3.out]; exact rg q 6 _ rfl
            clear hadd rr rg ru rv rl ry kz kl HU HV HLU HLV HUA HUB HVA HVB HBP8 HRY
            generalize F.N L.a L.b = n1 at hb1 kz3 kl3
            generalize F.N (L.b + 1) y.b = n2 at hb2 kz3 ky3
            generalize F.c0 L.a L.b = n3 at hb1 kz4 kl4
            generalize F.c0 (L.b + 1) y.b = n4 at hb2 kz4 ky4
            generalize F.c2 L.a L.b = n5 at hb1 kz6 kl6
            generalize F.c2 (L.b + 1) y.b = n6 at hb2 kz6 ky6
            obtain ⟨⟨a1, a2⟩, ⟨a3, a4⟩, a5, a6⟩ := hb1
            obtain ⟨⟨d1, d2⟩, ⟨d3, d4⟩, d5, d6⟩ := hb2
            refine wp_region_later (by kernel_rfl) (by kernel_rfl) ?_
            repeat (go_big_quiet_step (first | (go_at_call 19; first | with_reducible exact later_call (HC1.out _) | with_reducible exact later_call (HC2.out _))))
            refine wpQuiet_nil ?_
            rintro w10 ⟨u, rfl⟩
            have HBB := Lib.hid u.prop
            clear ru1 ru2 rv1 rv2 rl1 rl2 ry1 ry2 kz3 kz4 kz6 kl3 kl4 kl6 ky3 ky4 ky6 HC1 HC2
            generalize u.val = w10 at *
            have HRL := Lib.hid ((HBB.out.block _ (block_lt HRL.out)).trans HRL.out); have HRN := Lib.hid ((HBB.out.block _ (block_lt HRN.out)).trans HRN.out)
            have HO := Lib.hid (HO.out.trans (Only.of_below HBB.out))
            have HLL := Lib.hid (HLL.out.below HBB.out); have HON := Lib.hid (HON.out.below HBB.out)
            have HPW := Lib.hid (HPW.out.below HBB.out); have HYW := Lib.hid (HYW.out.below HBB.out)
            clear HBB
            obtain ⟨f1, f2⟩ := row_loJ (cs := z.cells F) HRN.out rfl
            have th := there_row10 HRL.out rfl
            have e1n := Rpr.cells_length F z
            have e1c := Rpr.cells_all F z
            go_wp2_with fail
            go_roundw
            case rel =>
              refine ⟨kk + 1, z, by go_num, by omega, by omega, HZA.out.trans HLA.out, ?_, ?_, HO.out.setCells 0 _, setCells_rowA HRL.out rfl, (HON.out.lower (Nat.zero_le _)).only ((Only.refl _ _).setCells 0 _) ?_, ?_⟩
              · have h1 := HZB.out; have h2 := HQ4.out; have h3 := HQ3.out; have h4 := HLB.out; omega
              · rw [take_snR HY.out, HZB.out]
                exact HQ6.out.snoc rfl HQ4.out
              · intro e
                have h1 := (HON.out.2 _ e).1
                have h2 := HGW.out
                omega
              · intro e
                have h1 := (HON.out.2 _ e).1
                have h2 := HGW.out
                omega
            case measure => simp [intOf]; omega
        · obtain rfl : kk = m + 1 := by omega
          have HLE : Hid (L.b = to0) := Lib.hid (by
            have h := HLC.out
            rw [List.take_of_length_le (by rw [HM.out]; exact Nat.le_refl _)] at h
            have := h.only HCH.out
            omega)
          obtain ⟨y, hy⟩ : ∃ y, ps[m]? = some y := ⟨_, List.getElem?_eq_getElem (by have := HM.out; omega)⟩
          have hq := HCH.out.take hy
          have HYE : Hid (y.b = to0) := Lib.hid (by
            have h := hq.2.2.1
            rw [List.drop_eq_nil_of_le (by rw [HM.out]; exact Nat.le_refl _)] at h
            unfold Chain at h
            omega)
          have HYC := Lib.hid hq.1
          have HYL : Hid (y.a ≤ y.b ∧ from0 ≤ y.a) := Lib.hid ⟨hq.2.1, hq.2.2.2.1⟩
          have hgx := HG17.out
          have hg9 : w2.heap.size < g17 := Nat.lt_of_lt_of_le (block_lt HR9.out) hgx.1
          have HR9 := Lib.hid ((HO.out.block _ (Nat.lt_trans hg9 hgx.2) (by omega)).trans ((HBW.out.block _ (block_lt HR9.out)).trans HR9.out))
          have HO0 := Lib.hid (((HO0.out.lower (Nat.zero_le _)).below HBW.out).only HO.out (fun e => by have := HL0.out _ e; omega))
          have HPW := Lib.hid (HLS.out.onlyR HO.out (fun e => by injection e with e; have e : bp = g17 := e; have := HBP.out; omega))
          have HALL : Hid (∀ r ∈ ps, OneR RW 0 wr r) := Lib.hid (fun r hr => (((HALL.out r hr).1.lower (Nat.zero_le _)).only HO.out (HALL.out r hr).2))
          have HBX : Hid (Below w.heap.size w wr) := Lib.hid (Only.below (HB3.out.trans (HBW.out.mono HB3.out.size)) (Nat.le_trans HB3.out.size hgx.1) (Nat.le_trans HB3.out.size HBW.out.size) HO.out)
          have HN9X : Hid (w2.heap.size < wr.heap.size ∧ g17 < wr.heap.size) := Lib.hid ⟨Nat.lt_of_lt_of_le (Nat.lt_trans hg9 hgx.2) HO.out.size, Nat.lt_of_lt_of_le hgx.2 HO.out.size⟩
          have HBPW : Hid (bp < wr.heap.size) := Lib.hid (Nat.lt_of_lt_of_le (Nat.lt_trans HBP.out hgx.2) HO.out.size)
          have HY := Lib.hid hy
          clear hq hy hgx hg9 HBW HO HL0 HLS HBP HOFF HB3
          have hry : wr.rangeAt bp (op + m * 10) (y.cells F) := by
            obtain ⟨b9, o9, e9, -, hr9⟩ := HPW.out.at HY.out
            have e10 : bp = b9 ∧ op = o9 := by injection e9 with e9; injection e9 with e9 e8; exact ⟨e9, e8⟩
            obtain ⟨rfl, rfl⟩ := e10
            exact hr9
          obtain ⟨f1, f2⟩ := loL_of hry (Rpr.cells_length F y)
          have th := there_row10 (new_row wr (.cells #[.int .i64 0, .int .i64 0, .slice none 0 0, .int .i64 0, .int .i64 0, .int .i64 0, .int .i64 0, .int .i64 0, .int .i64 0, .int .i64 0] 43 (0, 0)) _ rfl) rfl
          have HQX := Lib.hid (boxR wr F y)
          have e1n := Rpr.cells_length F y
          have e1c := Rpr.cells_all F y
          clear hry
          go_wp2_with fail
          clear th f1 f2 e1n e1c
          generalize hW6 : (wr.alloc (.cells #[.int .i64 0, .int .i64 0, .slice none 0 0, .int .i64 0, .int .i64 0, .int .i64 0, .int .i64 0, .int .i64 0, .int .i64 0, .int .i64 0] 43 (0, 0))).setCells wr.heap.size 0 (y.cells F) = W6 at *
          have HBB := Lib.hid HQX.out.2.1
          have HR9 := Lib.hid ((HBB.out.block _ (block_lt HR9.out)).trans HR9.out)
          have HRL := Lib.hid ((HBB.out.block _ (block_lt HRL.out)).trans HRL.out)
          have HN0 : Hid (∀ g, r0.v.ownBlock = some g → g < wr.heap.size) := Lib.hid (fun g hg => (HO0.out.2 g hg).2)
          have HNL : Hid (∀ g, L.v.ownBlock = some g → g < wr.heap.size) := Lib.hid (fun g hg => (HLL.out.2 g hg).2)
          have HNP : Hid (∀ r ∈ ps, r.v.ownBlock ≠ some wr.heap.size) := Lib.hid (fun r hr e => by have := ((HALL.out r hr).2 _ e).2; omega)
          have HO0 := Lib.hid (HO0.out.below HBB.out); have HLL := Lib.hid (HLL.out.below HBB.out); have HPW := Lib.hid (HPW.out.below HBB.out)
          have HALL : Hid (∀ r ∈ ps, OneR RW 0 W6 r) := Lib.hid (fun r hr => (HALL.out r hr).below HBB.out)
          have HG24 : Hid (w.heap.size ≤ wr.heap.size ∧ wr.heap.size < W6.heap.size) := Lib.hid ⟨HBX.out.size, HQX.out.2.2⟩
          have HBX := Lib.hid (HBX.out.trans (HBB.out.mono HBX.out.size))
          have HRQ := Lib.hid HQX.out.1
          clear HQX HBB hW6
          generalize wr.heap.size = g24 at *
          go_loopw [25] (fun iv wr => ∃ (j : Nat) (Q : Rpr), iv = .int .i64 ((j : Int) - 1) ∧ j ≤ m ∧ Q.b = to0 ∧ Q.a ≤ Q.b ∧ from0 ≤ Q.a ∧ Chain from0 Q.a (ps.take j) ∧ Only g24 W6 wr ∧ wr.heap[g24]? = some (.cells (Q.cells F).toArray 43 (0, 0)) ∧ OneR RW 0 wr Q ∧ Q.v.ownBlock ≠ some g24) (fun iv _ => (intOf iv + 1).toNat)
          case atStart =>
            exact ⟨m, y, by go_num, Nat.le_refl _, HYE.out, HYL.out.1, HYL.out.2, HYC.out, Only.refl _ _, HRQ.out, HALL.out y (List.mem_of_getElem? HY.out), HNP.out y (List.mem_of_getElem? HY.out)⟩
          case round =>
            obtain ⟨j, Q, hiv, hj, hQb, hQl, hQf, hQc, hO, hrow, hone, hoff⟩ := hrel
            have HQB := Lib.hid hQb; have HQL := Lib.hid hQl; have HQF := Lib.hid hQf; have HQC := Lib.hid hQc; have HO := Lib.hid hO; have HRQ := Lib.hid hrow; have HLQ := Lib.hid hone; have HOFF := Lib.hid hoff
            clear hQb hQl hQf hQc hO hrow hone hoff HY HYC HYL HYE
            cases j with
            | zero =>
              obtain rfl : u25 = .int .i64 (-1) := hiv
              have HQA : Hid (Q.a = from0) := Lib.hid (by have h := HQC.out; simp at h; unfold Chain at h; omega)
              have HR9 := Lib.hid ((HO.out.block _ (block_lt HR9.out) (by have := HN9X.out.1; omega)).trans HR9.out)
              have HRL := Lib.hid ((HO.out.block _ (block_lt HRL.out) (by have := HN9X.out.2; omega)).trans HRL.out)
              have HO0 := Lib.hid (HO0.out.only HO.out (fun e => by have := HN0.out _ e; omega))
              have HLL := Lib.hid (HLL.out.only HO.out (fun e => by have := HNL.out _ e; omega))
              have HBX := Lib.hid (Only.below HBX.out HG24.out.1 HBX.out.size HO.out)
              clear HO HPW HALL HN0 HNL HNP HOFF HM HCH HQC
              obtain ⟨f1, f2⟩ := row_loJ (cs := L.cells F) HRL.out rfl
              obtain ⟨f3, f4⟩ := row_loJ (cs := r0.cells F) HR9.out rfl
              go_wp2_with fail
              clear f1 f2 f3 f4
              refine (sameF_any F L r0 (HLA.out.trans HA0.out.symm) (HLE.out.trans HB0.out.symm) (RW r0.a r0.b) wr (by have h := HLL.out.1; rw [HLA.out, HLE.out, ← HA0.out, ← HB0.out] at h; exact h) HO0.out.1).mono ?_
              rintro e w9 ⟨rfl, hb9⟩
              have HBB := Lib.hid hb9
              clear hb9
              have HR9 := Lib.hid ((HBB.out.block _ (block_lt HR9.out)).trans HR9.out)
              have HRQ := Lib.hid ((HBB.out.block _ (block_lt HRQ.out)).trans HRQ.out)
              have HLQ := Lib.hid (HLQ.out.below HBB.out); have HO0 := Lib.hid (HO0.out.below HBB.out)
              have HBX := Lib.hid (HBX.out.trans (HBB.out.mono HBX.out.size))
              clear HBB
              obtain ⟨f1, f2⟩ := row_loJ (cs := Q.cells F) HRQ.out rfl
              obtain ⟨f3, f4⟩ := row_loJ (cs := r0.cells F) HR9.out rfl
              go_wp2_with fail
              clear f1 f2 f3 f4
              refine (sameF_any F Q r0 (HQA.out.trans HA0.out.symm) (HQB.out.trans HB0.out.symm) (RW r0.a r0.b) w9 (by have h := HLQ.out.1; rw [HQA.out, HQB.out, ← HA0.out, ← HB0.out] at h; exact h) HO0.out.1).mono ?_
              rintro e w10 ⟨rfl, hb9⟩
              have HBX := Lib.hid (HBX.out.trans (hb9.mono HBX.out.size))
              clear hb9
              go_wp2_with fail
              refine (known17_any _).mono ?_
              rintro e w11 ⟨rfl, hb9⟩
              have HBX := Lib.hid (HBX.out.trans (hb9.mono HBX.out.size))
              clear hb9
              go_wp2
              go_ret
              exact ⟨rfl, HBX.out⟩
            | succ ii =>
              obtain rfl : u25 = .int .i64 (ii : Int) := by rw [hiv]; congr 1; omega
              obtain ⟨y, hy⟩ : ∃ y, ps[ii]? = some y := ⟨_, List.getElem?_eq_getElem (by have := HM.out; omega)⟩
              have hq := HCH.out.take hy
              have hqa : Q.a = y.b + 1 := by
                have h1 := hq.1.snoc rfl hq.2.1
                rw [← take_snR hy] at h1
                exact HQC.out.only h1
              have HQ1 : Hid (0 ≤ y.a) := Lib.hid (by have := hq.2.2.2.1; omega)
              have HQ2 := Lib.hid hq.2.1
              have HQ3 := Lib.hid hqa
              have HQ4 := HQL
              have HQ5 : Hid (Q.b ≤ 1000000) := Lib.hid (by have := HQB.out; omega)
              have HPW := Lib.hid (HPW.out.onlyR HO.out (fun e => by injection e with e; have e : bp = g24 := e; have := HBPW.out; omega))
              have HYW := Lib.hid ((HALL.out y (List.mem_of_getElem? hy)).only HO.out (HNP.out y (List.mem_of_getElem? hy)))
              have HY := Lib.hid hy; have HQ6 := Lib.hid hq.1; have HQ7 := Lib.hid hq.2.2.2.1
              have hlt : (ii : Int) < (m : Int) + 1 := by omega
              clear hq hqa hy hiv
              go_upto_region 35 with fail
              refine wp_region_box 10 (T := fun A B => Below A.heap.size A B) (G := fun W => Below wr.heap.size wr W) (R := fun k => match k with | 0 => fun v _ => v = .slice (some ⟨bp, op, none⟩) (m + 1) cp | 1 => fun v _ => v = .int .i64 ii | 2 => fun v _ => v = .pointer (some ⟨bp, op + ii * 10, none⟩) | 3 => fun v _ => v = .agg (y.cells F).toArray | 4 => fun v _ => v = .agg (Q.cells F).toArray | 5 => fun v W => ∃ t : Rpr, t.a = y.a ∧ t.b = Q.b ∧ v = .tuple #[.agg (t.cells F).toArray, .int .i64 0] ∧ Mine Pst.cells 10 W wr.heap.size t.v (RW t.a t.b) | 6 => fun v W => ∃ t : Rpr, t.a = y.a ∧ t.b = Q.b ∧ v = .tuple #[.agg (t.cells F).toArray, .int .i64 0] ∧ Mine Pst.cells 10 W wr.heap.size t.v (RW t.a t.b) | 7 => fun v W => ∃ t : Rpr, t.a = y.a ∧ t.b = Q.b ∧ v = .agg (t.cells F).toArray ∧ Mine Pst.cells 10 W wr.heap.size t.v (RW t.a t.b) | 8 => fun v _ => v = .int .i64 0 | 9 => fun v W => ∃ N : Nat, v = .pointer (some ⟨N, 0, none⟩) ∧ wr.heap.size ≤ N ∧ W.heap[N]? = some (.cells #[.int .i64 0, .int .i64 0, .slice none 0 0, .int .i64 0, .int .i64 0, .int .i64 0, .int .i64 0, .int .i64 0, .int .i64 0, .int .i64 0] 43 (0, 0)) | 10 => fun _ _ => True | 11 => fun v _ => v = .int .i64 0 | _ => fun _ _ => True) (E := fun k => match k with | 0 => fun v => v = .slice (some ⟨bp, op, none⟩) (m + 1) cp | 1 => fun v => v = .int .i64 ii | 2 => fun v => v = .pointer (some ⟨bp, op + ii * 10, none⟩) | 3 => fun v => v = .agg (y.cells F).toArray | 4 => fun v => v = .agg (Q.cells F).toArray | 5 => fun _ => True | 6 => fun v => ∃ t : Rpr, v = .tuple #[.agg (t.cells F).toArray, .int .i64 0] | 7 => fun _ => True | 8 => fun v => v = .int .i64 0 | 9 => fun _ => True | 10 => fun _ => True | 11 => fun v => v = .int .i64 0 | _ => fun _ => True) (Fin := fun f W => ∃ (N : Nat) (t : Rpr), f 9 = .pointer (some ⟨N, 0, none⟩) ∧ wr.heap.size ≤ N ∧ t.a = y.a ∧ t.b = Q.b ∧ W.heap[N]? = some (.cells (t.cells F).toArray 43 (0, 0)) ∧ OneR RW wr.heap.size W t ∧ Below wr.heap.size wr W) (by kernel_rfl) (by kernel_rfl) (by kernel_rfl) ?iL ?iT ?iRE ?iER ?iF ((Below.refl _ _).drew) ?iS ?iD
              case iL => decide
              case iT =>
                intro k v A B hT h
                match k, h with
                | 0, h => exact h
                | 1, h => exact h
                | 2, h => exact h
                | 3, h => exact h
                | 4, h => exact h
                | 5, h => exact (by obtain ⟨t, h1, h2, h3, h4⟩ := h; exact ⟨t, h1, h2, h3, h4.below hT⟩)
                | 6, h => exact (by obtain ⟨t, h1, h2, h3, h4⟩ := h; exact ⟨t, h1, h2, h3, h4.below hT⟩)
                | 7, h => exact (by obtain ⟨t, h1, h2, h3, h4⟩ := h; exact ⟨t, h1, h2, h3, h4.below hT⟩)
                | 8, h => exact h
                | 9, h => exact (by obtain ⟨N, e, hN, hr⟩ := h; exact ⟨N, e, hN, (hT.block _ (block_lt hr)).trans hr⟩)
                | 10, h => exact h
                | 11, h => exact h
                | _ + 12, h => exact trivial
              case iRE =>
                intro k v W h
                match k, h with
                | 0, h => exact h
                | 1, h => exact h
                | 2, h => exact h
                | 3, h => exact h
                | 4, h => exact h
                | 5, h => exact trivial
                | 6, h => exact (by obtain ⟨t, h1, h2, h3, h4⟩ := h; exact ⟨t, h3⟩)
                | 7, h => exact trivial
                | 8, h => exact h
                | 9, h => exact trivial
                | 10, h => exact trivial
                | 11, h => exact h
                | _ + 12, h => exact trivial
              case iER =>
                intro k v W hk hw h
                match k, hk, hw, h with
                | 0, _, hw, _ => exact no_ft hw (by kernel_rfl)
                | 1, _, hw, _ => exact no_ft hw (by kernel_rfl)
                | 2, _, hw, _ => exact no_ft hw (by kernel_rfl)
                | 3, _, hw, _ => exact no_ft hw (by kernel_rfl)
                | 4, _, hw, _ => exact no_ft hw (by kernel_rfl)
                | 5, _, hw, _ => exact no_ft hw (by kernel_rfl)
                | 6, _, hw, _ => exact no_ft hw (by kernel_rfl)
                | 7, _, hw, _ => exact no_ft hw (by kernel_rfl)
                | 8, _, _, h => exact h
                | 9, _, hw, _ => exact no_ft hw (by kernel_rfl)
                | 10, hk, _, _ => exact absurd rfl hk
                | 11, _, _, h => exact h
                | _ + 12, _, _, h => exact trivial
              case iF =>
                intro f g W h hF
                obtain ⟨N, t, h1, h2⟩ := hF
                exact ⟨N, t, (h 9 (by kernel_rfl)).symm.trans h1, h2⟩
              case iS =>
                refine StepsB.consR (by decide) (by kernel_rfl) ?s0 (StepsB.consR (by decide) (by kernel_rfl) ?s1 (StepsB.consR (by decide) (by kernel_rfl) ?s2 (StepsB.consR (by decide) (by kernel_rfl) ?s3 (StepsB.consR (by decide) (by kernel_rfl) ?s4 (StepsB.consR (by decide) (by kernel_rfl) ?s5 (StepsB.consR (by decide) (by kernel_rfl) ?s6 (StepsB.consR (by decide) (by kernel_rfl) ?s7 (StepsB.consE (by decide) (by kernel_rfl) ?s8 (StepsB.consR (by decide) (by kernel_rfl) ?s9 (StepsB.consS (by decide) ?s10 (StepsB.consE (by decide) (by kernel_rfl) ?s11 (trivial))))))))))))
                case s0 =>
                  intro f W hG hW K hK
                  try dsimp only at hG
                  simp only [putF, Act.put, List.setIfInBounds_toArray, List.set_cons_zero, List.set_cons_succ, Nat.reduceAdd, Nat.zero_add] at hK ⊢
                  clear hW
                  go_simp
                  refine hK.out _ _ (Below.refl _ _) hG ?_
                  first | with_reducible rfl | rfl
                case s1 =>
                  intro f W hG hW K hK
                  try dsimp only at hG
                  simp only [putF, Act.put, List.setIfInBounds_toArray, List.set_cons_zero, List.set_cons_succ, Nat.reduceAdd, Nat.zero_add] at hK ⊢
                  clear hW
                  go_simp
                  refine hK.out _ _ (Below.refl _ _) hG ?_
                  first | with_reducible rfl | rfl
                case s2 =>
                  intro f W hG hW K hK
                  try dsimp only at hG
                  have e0 := hW 0 (by kernel_rfl)
                  change f 0 = .slice (some ⟨bp, op, none⟩) (m + 1) cp at e0
                  have e1 := hW 1 (by kernel_rfl)
                  change f 1 = .int .i64 ii at e1
                  simp only [putF, Act.put, List.setIfInBounds_toArray, List.set_cons_zero, List.set_cons_succ, Nat.reduceAdd, Nat.zero_add] at hK ⊢
                  (try rw [e0])
                  (try rw [e0] at hK)
                  (try rw [e1])
                  (try rw [e1] at hK)
                  clear hW
                  go_simp
                  refine hK.out _ _ (Below.refl _ _) hG ?_
                  first | with_reducible rfl | rfl
                case s3 =>
                  intro f W hG hW K hK
                  try dsimp only at hG
                  have e2 := hW 2 (by kernel_rfl)
                  change f 2 = .pointer (some ⟨bp, op + ii * 10, none⟩) at e2
                  simp only [putF, Act.put, List.setIfInBounds_toArray, List.set_cons_zero, List.set_cons_succ, Nat.reduceAdd, Nat.zero_add] at hK ⊢
                  (try rw [e2])
                  (try rw [e2] at hK)
                  obtain ⟨b9, o9, e9, -, hr9⟩ := (HPW.out.below hG).at HY.out
                  have e10 : bp = b9 ∧ op = o9 := by injection e9 with e9; injection e9 with e9 e8; exact ⟨e9, e8⟩
                  obtain ⟨rfl, rfl⟩ := e10
                  obtain ⟨f1, f2⟩ := loL_of hr9 (Rpr.cells_length F y)
                  clear hW
                  go_simp
                  refine hK.out _ _ (Below.refl _ _) hG ?_
                  first | with_reducible rfl | rfl
                case s4 =>
                  intro f W hG hW K hK
                  try dsimp only at hG
                  simp only [putF, Act.put, List.setIfInBounds_toArray, List.set_cons_zero, List.set_cons_succ, Nat.reduceAdd, Nat.zero_add] at hK ⊢
                  have hrw := (hG.block g24 (block_lt HRQ.out)).trans HRQ.out
                  obtain ⟨f1, f2⟩ := row_loJ (cs := Q.cells F) hrw rfl
                  clear hW
                  go_simp
                  refine hK.out _ _ (Below.refl _ _) hG ?_
                  first | with_reducible rfl | rfl
                case s5 =>
                  intro f W hG hW K hK
                  try dsimp only at hG
                  have e3 := hW 3 (by kernel_rfl)
                  change f 3 = .agg (y.cells F).toArray at e3
                  have e4 := hW 4 (by kernel_rfl)
                  change f 4 = .agg (Q.cells F).toArray at e4
                  simp only [putF, Act.put, List.setIfInBounds_toArray, List.set_cons_zero, List.set_cons_succ, Nat.reduceAdd, Nat.zero_add] at hK ⊢
                  (try rw [e3])
                  (try rw [e3] at hK)
                  (try rw [e4])
                  (try rw [e4] at hK)
                  clear hW
                  go_simp
                  refine (HJN.out y Q HQ1.out HQ2.out HQ3.out HQ4.out HQ5.out W (by rw [HRE.out]; exact HYW.out.1.below hG) (by rw [HRE.out]; exact HLQ.out.1.below hG)).mono ?_
                  rintro e w' ⟨t, h1, h2, rfl, hm, hb⟩
                  rw [HRE.out] at hm
                  exact hK.out _ _ hb (hG.trans (hb.mono hG.size)) ⟨t, h1, h2, rfl, mineLower hm hG.size⟩
                case s6 =>
                  intro f W hG hW K hK
                  try dsimp only at hG
                  have e5 := hW 5 (by kernel_rfl)
                  try dsimp only at e5
                  simp only [putF, Act.put, List.setIfInBounds_toArray, List.set_cons_zero, List.set_cons_succ, Nat.reduceAdd, Nat.zero_add] at hK ⊢
                  obtain ⟨t, h1, h2, h3, h4⟩ := e5
                  simp only [h3] at hK ⊢
                  clear hW
                  go_simp
                  refine hK.out _ _ (Below.refl _ _) hG ?_
                  exact ⟨t, h1, h2, rfl, h4⟩
                case s7 =>
                  intro f W hG hW K hK
                  try dsimp only at hG
                  have e6 := hW 6 (by kernel_rfl)
                  try dsimp only at e6
                  simp only [putF, Act.put, List.setIfInBounds_toArray, List.set_cons_zero, List.set_cons_succ, Nat.reduceAdd, Nat.zero_add] at hK ⊢
                  obtain ⟨t, h1, h2, h3, h4⟩ := e6
                  simp only [h3] at hK ⊢
                  clear hW
                  go_simp
                  refine hK.out _ _ (Below.refl _ _) hG ?_
                  exact ⟨t, h1, h2, rfl, h4⟩
                case s8 =>
                  intro f W hW K hK
                  have e6 := hW 6 (by kernel_rfl)
                  try dsimp only at e6
                  simp only [putF, Act.put, List.setIfInBounds_toArray, List.set_cons_zero, List.set_cons_succ, Nat.reduceAdd, Nat.zero_add] at hK ⊢
                  obtain ⟨t, h3⟩ := e6
                  simp only [h3] at hK ⊢
                  clear hW
                  go_simp
                  refine hK.out _ _ rfl ?_
                  first | with_reducible rfl | rfl
                case s9 =>
                  intro f W hG hW K hK
                  try dsimp only at hG
                  simp only [putF, Act.put, List.setIfInBounds_toArray, List.set_cons_zero, List.set_cons_succ, Nat.reduceAdd, Nat.zero_add] at hK ⊢
                  clear hW
                  go_simp
                  refine hK.out _ _ ((Below.refl _ _).alloc (Nat.le_refl _) _) (hG.alloc hG.size _) ?_
                  exact ⟨W.heap.size, rfl, hG.size, new_row _ _ _ rfl⟩
                case s10 =>
                  intro f W hG hW K hK
                  try dsimp only at hG
                  have e0 := hW 0 (by kernel_rfl)
                  change f 0 = .slice (some ⟨bp, op, none⟩) (m + 1) cp at e0
                  have e1 := hW 1 (by kernel_rfl)
                  change f 1 = .int .i64 ii at e1
                  have e2 := hW 2 (by kernel_rfl)
                  change f 2 = .pointer (some ⟨bp, op + ii * 10, none⟩) at e2
                  have e3 := hW 3 (by kernel_rfl)
                  change f 3 = .agg (y.cells F).toArray at e3
                  have e4 := hW 4 (by kernel_rfl)
                  change f 4 = .agg (Q.cells F).toArray at e4
                  have e5 := hW 5 (by kernel_rfl)
                  try dsimp only at e5
                  have e6 := hW 6 (by kernel_rfl)
                  try dsimp only at e6
                  have e7 := hW 7 (by kernel_rfl)
                  try dsimp only at e7
                  have e9 := hW 9 (by kernel_rfl)
                  try dsimp only at e9
                  simp only [putF, Act.put, List.setIfInBounds_toArray, List.set_cons_zero, List.set_cons_succ, Nat.reduceAdd, Nat.zero_add] at hK ⊢
                  (try rw [e0])
                  (try rw [e0] at hK)
                  (try rw [e1])
                  (try rw [e1] at hK)
                  (try rw [e2])
                  (try rw [e2] at hK)
                  (try rw [e3])
                  (try rw [e3] at hK)
                  (try rw [e4])
                  (try rw [e4] at hK)
                  obtain ⟨t, h1, h2, h3, h4⟩ := e7
                  have H1 := Lib.hid h1; have H2 := Lib.hid h2; clear h1 h2
                  obtain ⟨N, hN, hNB, hcr⟩ := e9
                  have hfN := hN
                  simp only [h3, hN] at hK ⊢
                  have th := there_row10 hcr rfl
                  have e1n := Rpr.cells_length F t
                  have e1c := Rpr.cells_all F t
                  have ho := (Only.refl N W).setCells 0 (t.cells F)
                  have hl4 := h4.offR hcr ho
                  have HNB := Lib.hid hNB; have HCR := Lib.hid hcr; have HO4 := Lib.hid ho; have HL4 := Lib.hid hl4
                  clear hW hNB hcr ho hl4
                  go_simp
                  refine hK.out undef _ trivial ?_
                  exact ⟨N, t, rfl, HNB.out, H1.out, H2.out, setCells_rowA HCR.out rfl, ⟨HL4.out, fun g hg => ⟨(h4.inR g hg).1, Nat.lt_of_lt_of_le (h4.inR g hg).2 HO4.out.size⟩⟩, Only.below hG HNB.out hG.size HO4.out⟩
                case s11 =>
                  intro f W hW K hK
                  have e0 := hW 0 (by kernel_rfl)
                  change f 0 = .slice (some ⟨bp, op, none⟩) (m + 1) cp at e0
                  have e1 := hW 1 (by kernel_rfl)
                  change f 1 = .int .i64 ii at e1
                  have e2 := hW 2 (by kernel_rfl)
                  change f 2 = .pointer (some ⟨bp, op + ii * 10, none⟩) at e2
                  have e3 := hW 3 (by kernel_rfl)
                  change f 3 = .agg (y.cells F).toArray at e3
                  have e4 := hW 4 (by kernel_rfl)
                  change f 4 = .agg (Q.cells F).toArray at e4
                  have e6 := hW 6 (by kernel_rfl)
                  try dsimp only at e6
                  have e8 := hW 8 (by kernel_rfl)
                  change f 8 = .int .i64 0 at e8
                  simp only [putF, Act.put, List.setIfInBounds_toArray, List.set_cons_zero, List.set_cons_succ, Nat.reduceAdd, Nat.zero_add] at hK ⊢
                  (try rw [e0])
                  (try rw [e0] at hK)
                  (try rw [e1])
                  (try rw [e1] at hK)
                  (try rw [e2])
                  (try rw [e2] at hK)
                  (try rw [e3])
                  (try rw [e3] at hK)
                  (try rw [e4])
                  (try rw [e4] at hK)
                  (try rw [e8])
                  (try rw [e8] at hK)
                  clear hW
                  go_simp
                  refine hK.out _ _ rfl ?_
                  first | exact trivial | with_reducible rfl | rfl
              case iD =>
                intro f W hF hE
                have r8 := hE 8 (by decide)
                change f 8 = .int .i64 0 at r8
                have r11 := hE 11 (by decide)
                change f 11 = .int .i64 0 at r11
                have r0 := hE 0 (by decide)
                change f 0 = .slice (some ⟨bp, op, none⟩) (m + 1) cp at r0
                have r1 := hE 1 (by decide)
                change f 1 = .int .i64 ii at r1
                have r2 := hE 2 (by decide)
                change f 2 = .pointer (some ⟨bp, op + ii * 10, none⟩) at r2
                have r3 := hE 3 (by decide)
                change f 3 = .agg (y.cells F).toArray at r3
                have r4 := hE 4 (by decide)
                change f 4 = .agg (Q.cells F).toArray at r4
                clear hE
                simp only [putF, Act.put, List.setIfInBounds_toArray, List.set_cons_zero, List.set_cons_succ, Nat.reduceAdd, Nat.zero_add]
                (try rw [r8])
                (try rw [r11])
                (try rw [r0])
                (try rw [r1])
                (try rw [r2])
                (try rw [r3])
                (try rw [r4])
                obtain ⟨N, z, hfN, hNB, hza, hzb, hrow, hone, hbb⟩ := hF
                rw [hfN]
                have HNB := Lib.hid hNB; have HZA := Lib.hid hza; have HZB := Lib.hid hzb; have HRN := Lib.hid hrow; have HON := Lib.hid hone; have HBB := Lib.hid hbb
                clear hfN hNB hza hzb hrow hone hbb r0 r1 r2 r3 r4 r8 r11
                generalize W = w7 at *
                have HGW : Hid (g24 < wr.heap.size) := Lib.hid (Nat.lt_of_lt_of_le HG24.out.2 HO.out.size)
                have HRQ := Lib.hid ((HBB.out.block _ (block_lt HRQ.out)).trans HRQ.out)
                have HO := Lib.hid (HO.out.trans (Only.of_below HBB.out))
                clear HBB
                obtain ⟨f1, f2⟩ := row_loJ (cs := z.cells F) HRN.out rfl
                have th := there_row10 HRQ.out rfl
                have e1n := Rpr.cells_length F z
                have e1c := Rpr.cells_all F z
                go_wp2_with fail
                go_roundw
                case rel =>
                  refine ⟨ii, z, by go_num, by omega, HZB.out.trans HQB.out, ?_, ?_, ?_, HO.out.setCells 0 _, setCells_rowA HRQ.out rfl, (HON.out.lower (Nat.zero_le _)).only ((Only.refl _ _).setCells 0 _) ?_, ?_⟩
                  · have h1 := HZA.out; have h2 := HZB.out; have h3 := HQ2.out; have h4 := HQ3.out; have h5 := HQ4.out; omega
                  · have h1 := HZA.out; have h2 := HQ7.out; omega
                  · rw [HZA.out]; exact HQ6.out
                  · intro e
                    have h1 := (HON.out.2 _ e).1
                    have h2 := HGW.out
                    omega
                  · intro e
                    have h1 := (HON.out.2 _ e).1
                    have h2 := HGW.out
                    omega
                case measure => simp [intOf]
set_option maxRecDepth 8000 in
set_option maxHeartbeats 2000000 in
theorem walk_k1 (from0 to0 : Int) (cu : List Int) (pc : Option Addr) (nc cc : Nat) (l : List Pst) (pl : Option Addr) (nl cl : Nat) (h1 : 50 < nl) (w : World) (hc : LS intC 1 w (.slice pc nc cc) cu) (hs : PS w (.slice pl nl cl) l) :
    Calls Try.prog 4 #[.int .i64 from0, .int .i64 to0, .slice pc nc cc, .slice pl nl cl] w fun e w' => e = .returned (.bool true) ∧ Below w.heap.size w w' := by
  have hln := ps_len hs
  have hcn := hc.length
  have HPS := Lib.hid hs
  have hnl1 := hln.2.1; have hnl2 := hln.2.2; have hnc1 := hcn.2.1; have hnc2 := hcn.2.2
  unfold maxLen at hnc2
  clear hs hc hln hcn
  go_enter Try.func4, Try.ntmps4
  go_wp2_with fail
  refine (known17_any _).mono ?_
  rintro e w9 ⟨rfl, hb9⟩
  go_wp2
  go_ret
  exact ⟨rfl, hb9⟩
set_option maxRecDepth 8000 in
set_option maxHeartbeats 2000000 in
theorem walk_k2 (from0 to0 : Int) (cu : List Int) (pc : Option Addr) (nc cc : Nat) (l : List Pst) (pl : Option Addr) (nl cl : Nat) (h1 : ¬ 50 < nl) (h2 : 12 < nc) (w : World) (hc : LS intC 1 w (.slice pc nc cc) cu) (hs : PS w (.slice pl nl cl) l) :
    Calls Try.prog 4 #[.int .i64 from0, .int .i64 to0, .slice pc nc cc, .slice pl nl cl] w fun e w' => e = .returned (.bool true) ∧ Below w.heap.size w w' := by
  have hln := ps_len hs
  have hcn := hc.length
  have HPS := Lib.hid hs
  have hnl1 := hln.2.1; have hnl2 := hln.2.2; have hnc1 := hcn.2.1; have hnc2 := hcn.2.2
  unfold maxLen at hnc2
  clear hs hc hln hcn
  go_enter Try.func4, Try.ntmps4
  go_wp2_with fail
  refine (known17_any _).mono ?_
  rintro e w9 ⟨rfl, hb9⟩
  go_wp2
  go_ret
  exact ⟨rfl, hb9⟩
set_option maxRecDepth 8000 in
set_option maxHeartbeats 2000000 in
theorem walk_k3 (from0 to0 : Int) (cu : List Int) (pc : Option Addr) (nc cc : Nat) (l : List Pst) (pl : Option Addr) (nl cl : Nat) (h1 : ¬ 50 < nl) (h2 : ¬ 12 < nc) (hf : ¬ Rep.FineP l) (w : World) (hc : LS intC 1 w (.slice pc nc cc) cu) (hs : PS w (.slice pl nl cl) l) :
    Calls Try.prog 4 #[.int .i64 from0, .int .i64 to0, .slice pc nc cc, .slice pl nl cl] w fun e w' => e = .returned (.bool true) ∧ Below w.heap.size w w' := by
  have hln := ps_len hs
  have hcn := hc.length
  have HPS := Lib.hid hs
  have hnl1 := hln.2.1; have hnl2 := hln.2.2; have hnc1 := hcn.2.1; have hnc2 := hcn.2.2
  unfold maxLen at hnc2
  have HFN := Lib.hid (fun W h => rFine_any l false ⟨(fun h => by cases h), fun h => absurd h hf⟩ pl nl cl W h)
  clear hf
  clear hs hc hln hcn
  go_enter Try.func4, Try.ntmps4
  go_wp2_with fail
  refine (HFN.out _ HPS.out).mono ?_
  rintro e w1 ⟨rfl, hb1⟩
  have HB1 := Lib.hid hb1
  clear hb1
  go_wp2_with fail
  refine (known17_any _).mono ?_
  rintro e w9 ⟨rfl, hb9⟩
  go_wp2
  go_ret
  exact ⟨rfl, HB1.out.trans (hb9.mono HB1.out.size)⟩
set_option maxRecDepth 8000 in
set_option maxHeartbeats 2000000 in
theorem walk_k4 (from0 to0 : Int) (cu : List Int) (pc : Option Addr) (nc cc : Nat) (l : List Pst) (pl : Option Addr) (nl cl : Nat) (h1 : ¬ 50 < nl) (h2 : ¬ 12 < nc) (hf : Rep.FineP l) (h3 : from0 < 0) (w : World) (hc : LS intC 1 w (.slice pc nc cc) cu) (hs : PS w (.slice pl nl cl) l) :
    Calls Try.prog 4 #[.int .i64 from0, .int .i64 to0, .slice pc nc cc, .slice pl nl cl] w fun e w' => e = .returned (.bool true) ∧ Below w.heap.size w w' := by
  have hln := ps_len hs
  have hcn := hc.length
  have HPS := Lib.hid hs
  have hnl1 := hln.2.1; have hnl2 := hln.2.2; have hnc1 := hcn.2.1; have hnc2 := hcn.2.2
  unfold maxLen at hnc2
  have HFN := Lib.hid (fun W h => rFine_any l true ⟨fun _ => hf, fun _ => rfl⟩ pl nl cl W h)
  clear hf
  clear hs hc hln hcn
  go_enter Try.func4, Try.ntmps4
  go_wp2_with fail
  refine (HFN.out _ HPS.out).mono ?_
  rintro e w1 ⟨rfl, hb1⟩
  have HB1 := Lib.hid hb1
  clear hb1
  go_wp2_with fail
  refine (known17_any _).mono ?_
  rintro e w9 ⟨rfl, hb9⟩
  go_wp2
  go_ret
  exact ⟨rfl, HB1.out.trans (hb9.mono HB1.out.size)⟩
set_option maxRecDepth 8000 in
set_option maxHeartbeats 2000000 in
theorem walk_k5 (from0 to0 : Int) (cu : List Int) (pc : Option Addr) (nc cc : Nat) (l : List Pst) (pl : Option Addr) (nl cl : Nat) (h1 : ¬ 50 < nl) (h2 : ¬ 12 < nc) (hf : Rep.FineP l) (h3 : ¬ from0 < 0) (h4 : to0 < from0) (w : World) (hc : LS intC 1 w (.slice pc nc cc) cu) (hs : PS w (.slice pl nl cl) l) :
    Calls Try.prog 4 #[.int .i64 from0, .int .i64 to0, .slice pc nc cc, .slice pl nl cl] w fun e w' => e = .returned (.bool true) ∧ Below w.heap.size w w' := by
  have hln := ps_len hs
  have hcn := hc.length
  have HPS := Lib.hid hs
  have hnl1 := hln.2.1; have hnl2 := hln.2.2; have hnc1 := hcn.2.1; have hnc2 := hcn.2.2
  unfold maxLen at hnc2
  have HFN := Lib.hid (fun W h => rFine_any l true ⟨fun _ => hf, fun _ => rfl⟩ pl nl cl W h)
  clear hf
  clear hs hc hln hcn
  go_enter Try.func4, Try.ntmps4
  go_wp2_with fail
  refine (HFN.out _ HPS.out).mono ?_
  rintro e w1 ⟨rfl, hb1⟩
  have HB1 := Lib.hid hb1
  clear hb1
  go_wp2_with fail
  refine (known17_any _).mono ?_
  rintro e w9 ⟨rfl, hb9⟩
  go_wp2
  go_ret
  exact ⟨rfl, HB1.out.trans (hb9.mono HB1.out.size)⟩
set_option maxRecDepth 8000 in
set_option maxHeartbeats 2000000 in
theorem walk_k6 (from0 to0 : Int) (cu : List Int) (pc : Option Addr) (nc cc : Nat) (l : List Pst) (pl : Option Addr) (nl cl : Nat) (h1 : ¬ 50 < nl) (h2 : ¬ 12 < nc) (hf : Rep.FineP l) (h3 : ¬ from0 < 0) (h4 : ¬ to0 < from0) (h5 : 1000000 < to0) (w : World) (hc : LS intC 1 w (.slice pc nc cc) cu) (hs : PS w (.slice pl nl cl) l) :
    Calls Try.prog 4 #[.int .i64 from0, .int .i64 to0, .slice pc nc cc, .slice pl nl cl] w fun e w' => e = .returned (.bool true) ∧ Below w.heap.size w w' := by
  have hln := ps_len hs
  have hcn := hc.length
  have HPS := Lib.hid hs
  have hnl1 := hln.2.1; have hnl2 := hln.2.2; have hnc1 := hcn.2.1; have hnc2 := hcn.2.2
  unfold maxLen at hnc2
  have HFN := Lib.hid (fun W h => rFine_any l true ⟨fun _ => hf, fun _ => rfl⟩ pl nl cl W h)
  clear hf
  clear hs hc hln hcn
  go_enter Try.func4, Try.ntmps4
  go_wp2_with fail
  refine (HFN.out _ HPS.out).mono ?_
  rintro e w1 ⟨rfl, hb1⟩
  have HB1 := Lib.hid hb1
  clear hb1
  go_wp2_with fail
  refine (known17_any _).mono ?_
  rintro e w9 ⟨rfl, hb9⟩
  go_wp2
  go_ret
  exact ⟨rfl, HB1.out.trans (hb9.mono HB1.out.size)⟩
theorem walk (from0 to0 : Int) (cu : List Int) (pc : Option Addr) (nc cc : Nat) (l : List Pst) (pl : Option Addr) (nl cl : Nat) (w : World) (hc : LS intC 1 w (.slice pc nc cc) cu) (hs : PS w (.slice pl nl cl) l) :
    Calls Try.prog 4 #[.int .i64 from0, .int .i64 to0, .slice pc nc cc, .slice pl nl cl] w fun e w' => e = .returned (.bool true) ∧ Below w.heap.size w w' := by
  by_cases h1 : 50 < nl
  · exact walk_k1 from0 to0 cu pc nc cc l pl nl cl h1 w hc hs
  by_cases h2 : 12 < nc
  · exact walk_k2 from0 to0 cu pc nc cc l pl nl cl h1 h2 w hc hs
  by_cases hf : Rep.FineP l
  · by_cases h3 : from0 < 0
    · exact walk_k4 from0 to0 cu pc nc cc l pl nl cl h1 h2 hf h3 w hc hs
    by_cases h4 : to0 < from0
    · exact walk_k5 from0 to0 cu pc nc cc l pl nl cl h1 h2 hf h3 h4 w hc hs
    by_cases h5 : 1000000 < to0
    · exact walk_k6 from0 to0 cu pc nc cc l pl nl cl h1 h2 hf h3 h4 h5 w hc hs
    exact walk_ok from0 to0 cu pc nc cc l pl nl cl h1 h2 hf h3 h4 h5 w hc hs
  · exact walk_k3 from0 to0 cu pc nc cc l pl nl cl h1 h2 hf w hc hs
set_option maxRecDepth 10000 in
theorem open_cuts {H : Type} {enc : TypeId × Value → H} {W : World} {held : Bool} {r : Reach} {b0 : Nat} {v : Value} {d : DataW H} {ps : List MemPlace} (hv : Value.okWide Try.prog W r b0 37 v) (h : DataW.Trod enc Try.prog W 0 (fun _ => true) held 37 v d ps) :
    ∃ p n cap l, v = .slice p n cap ∧ LS intC 1 W (.slice p n cap) l := by
  obtain ⟨p0, n0, c0, rfl⟩ := okWide_slice Try.underlying37 hv
  obtain ⟨fuel, hf⟩ := h
  have hf' : DataW.trod enc Try.prog W 0 (fun _ => true) held fuel 37 [.slice p0 n0 c0] = some (d, ps) := by simpa [Value.cells] using hf
  obtain ⟨l, h1, -⟩ := open_recs (n := 3) (en := intC) (ks := [.i64]) (fun y : Int => True) (fun zs hz => by
    match zs, hz with
    | [z], hz => exact ⟨z, rfl, trivial⟩
    | [], hz => exact hz.elim
    | _ :: _ :: _, hz => exact hz.2.elim) Try.underlying37 (by kernel_rfl) (by kernel_rfl) (by decide) hf'
  exact ⟨p0, n0, c0, l, rfl, h1⟩
set_option maxRecDepth 100000 in
theorem lifted (os : Os) (started : os.Started) (H : Type) (enc : TypeId × Value → H) :
    ReturnsInHanded {} Try.checked os 4 .any (Rows.reportFollowsSpec.pre6 enc Try.prog Try.f4 Rows.reportFollowsRow.domain false) (Rows.reportFollowsSpec.post enc Try.prog Try.f4 false true false false) := by
  refine returnsInHanded_of_change (C := Try.checked) own started (by kernel_rfl) Try.func4
    (ChangeSpec.witness6 (enc := enc) (C := Try.checked) false ⟨#[], #[.int .i64 0, .int .i64 0, .slice none 0 0, .slice none 0 0], []⟩ 8 (by kernel_rfl) (by kernel_rfl) (by kernel_rfl) (by kernel_rfl)) ?_
  intro W base args ds gs before hval0 hW hcnd _
  have hval : ∀ (j : Nat) t v, Try.f4.params[j]? = some t → args[j]? = some v → Value.okWide Try.prog W .any base t v := hval0
  have hW' := hW
  obtain ⟨p, q, hA0, hV, rfl, hfz, hnd⟩ := hW
  have hA : DataW.TrodAll enc Try.prog W 0 (fun _ => true) true Try.f4.params.toList args.toList ds p := hA0
  rw [Try.params4] at hA hval
  obtain ⟨v0, vs0, d0, ds0, p0, q0, hargs, rfl, rfl, h0, r0⟩ := trodAll_cons hA
  obtain ⟨v1, vs1, d1, ds1, p1, q1, rfl, rfl, rfl, h1, r1⟩ := trodAll_cons r0
  obtain ⟨v2, vs2, d2, ds2, p2, q2, rfl, rfl, rfl, h2, r2⟩ := trodAll_cons r1
  obtain ⟨v3, vs3, d3, ds3, p3, q3, rfl, rfl, rfl, h3, r3⟩ := trodAll_cons r2
  obtain ⟨rfl, rfl, rfl⟩ := trodAll_nil r3
  obtain rfl : args = #[v0, v1, v2, v3] := by cases args; simp_all
  obtain ⟨from0, rfl, rfl, rfl, wfrom0⟩ := open_int Try.underlying3 (hval 0 3 v0 rfl rfl) h0
  obtain ⟨to0, rfl, rfl, rfl, wto0⟩ := open_int Try.underlying3 (hval 1 3 v1 rfl rfl) h1
  obtain ⟨pc, nc, cc, cu, rfl, hcu⟩ := open_cuts (hval 2 _ v2 rfl rfl) h2
  obtain ⟨l, p', n, cap, rfl, hn, hs⟩ := open_posts' (hval 3 _ v3 rfl rfl) h3
  clear hA0 hval0
  refine (walk from0 to0 cu pc nc cc l p' n cap W hcu hs).mono fun e W' ⟨he, hg⟩ => ?_
  subst he
  exact ⟨_, rfl, post_law laidOut rfl hW' ⟨rfl, rfl, rfl⟩ (by kernel_rfl) hg Try.underlying4 rfl⟩

theorem proved : Rows.ReportFollowsSaid :=
  OpenClaim.holds_of_wide 4 Try.f4 rfl rfl rfl rfl rfl rfl rfl ⟨rfl, rfl, rfl, rfl, rfl⟩ rfl rfl rfl rfl rfl (by kernel_rfl) Try.func4 (by kernel_rfl)
    (of_decide_eq_true (by kernel_rfl)) (by unfold Func.isWrapper; first | (rw [if_pos (by decide +kernel)]; kernel_rfl) | (rw [if_neg (by decide +kernel)]; exact ⟨rfl, rfl⟩))
    (fun os started H enc _ => lifted os started H enc)
#print axioms proved
end Go.Proofs.Ytajpggnmhkpbkaa.reportFollows
