/- Contracts of the ticket chapter's rows (simple, known). -/
import Derived.Test.YtmadkfahkbdibaaTrB
import Derived.Test.YtmadkfahkbdibaaNumD
import Derived.Test.YtmadkfahkbdibaaTkR
set_option linter.unusedVariables false
set_option linter.unusedSimpArgs false
namespace Go.Proofs.Ytmadkfahkbdibaa
open Go.RowKit

attribute [local go_sem ↓] Tk_execLoad Tk_execStore
attribute [local go_sem] Tk_load Tk_store loL_drew okL_drew there_sc World.there_drew
namespace Tkt
def sT : Tk := ⟨1230000000014, ⟨#[65, 66, 67, 50, 51, 52]⟩, 5, [⟨7, 9, 1000, 1, 0, 0⟩], [], 0, 1230000000014, 1230000000014, 0, 0, []⟩
def sT2 : Tk := ⟨1230000000014, ⟨#[65, 66, 67, 50, 51, 52]⟩, 5, [⟨7, 9, 1000, 9, 126, 0⟩], [], 0, 1230000000014, 1230000000014, 0, 0, [⟨9, 1, 1, 9⟩]⟩
def sT3 : Tk := ⟨1230000000014, ⟨#[65, 66, 67, 50, 51, 52]⟩, 5, [⟨7, 9, 1000, 1, 0, 0⟩], [], 0, 1230000000014, 1230000000014, 0, 0, [⟨9, 1, 1, 9⟩, ⟨9, 1, 9, 1⟩]⟩
theorem s_may : mayB sT = true := by decide +kernel
theorem s_len : (encT sT).length = 79 := by decide +kernel
theorem s_num : Num.mkN 123 1 = 1230000000014 := by decide +kernel
theorem s_e1 : errC sT 1 9 9 124 = 2 := by decide +kernel
theorem s_e2 : errC sT 1 9 9 126 = 0 := by decide +kernel
theorem s_t1 : chgT sT 1 9 9 124 = zTk := by unfold chgT; rw [s_e1]; rfl
theorem s_t2 : chgT sT 1 9 9 126 = sT2 := by unfold chgT; rw [s_e2]; rfl
theorem s_e3 : errC sT2 1 9 1 0 = 0 := by decide +kernel
theorem s_t3 : chgT sT2 1 9 1 0 = sT3 := by unfold chgT; rw [s_e3]; rfl
theorem s_wf (t : Tk) (h : t = sT ∨ t = sT2) : t.wf := by
  rcases h with rfl | rfl
  · constructor <;> simp [sT, U64, I64, Cpn.wf, maxLen]
    decide
  · constructor <;> simp [sT2, U64, I64, Cpn.wf, Evt.wf, maxLen]
    decide
end Tkt
theorem putTk {W : World} {cs : List Value} (h : cs.length = 11) : ((W.alloc (.cells #[.int .u64 0, .string ⟨#[]⟩, .int .i64 0, .slice none 0 0, .slice none 0 0, .int .u64 0, .int .u64 0, .int .u64 0, .int .i64 0, .int .i64 0, .slice none 0 0] 27 (0, 0))).setCells W.heap.size 0 cs).heap[W.heap.size]? = some (.cells cs.toArray 27 (0, 0)) ∧ Below W.heap.size W ((W.alloc (.cells #[.int .u64 0, .string ⟨#[]⟩, .int .i64 0, .slice none 0 0, .slice none 0 0, .int .u64 0, .int .u64 0, .int .u64 0, .int .i64 0, .int .i64 0, .slice none 0 0] 27 (0, 0))).setCells W.heap.size 0 cs) :=
  ⟨setCells_rowT (new_rowW _ _ _ rfl) (by rw [h]; rfl), Only.below ((Below.refl _ _).alloc (Nat.le_refl _) _) (Nat.le_refl _) (by simp) ((Only.refl W.heap.size _).setCells 0 _)⟩
/-- what a call gave, as a ticket in memory -/
theorem TS.of_own {w : World} {base : Nat} {t : Tk} {c x h : Sl} (hw : t.wf) (o1 : w.ownsRow base 44 6 (.slice c.p c.n c.c) t.cs.length (encL Cpn.cells t.cs)) (o2 : w.ownsRow base 48 2 (.slice x.p x.n x.c) t.ts.length (encL Txx.cells t.ts)) (o3 : w.ownsRow base 46 4 (.slice h.p h.n h.c) t.hs.length (encL Evt.cells t.hs)) : TS w t c x h :=
  ⟨LS.of_own o1 Cpn.cells_length (by decide), LS.of_own o2 Txx.cells_length (by decide), LS.of_own o3 Evt.cells_length (by decide), hw⟩
set_option maxRecDepth 8000 in
set_option maxHeartbeats 2000000 in
theorem simple13_any (w : World) : Calls Try.prog 48 #[] w fun e w' => ∃ c' : Sl, e = .returned (.agg #[.int .u64 Tkt.sT.num, .string Tkt.sT.loc, .int .i64 Tkt.sT.iss, .slice c'.p c'.n c'.c, .slice none 0 0, .int .u64 Tkt.sT.prev, .int .u64 Tkt.sT.org, .int .u64 Tkt.sT.fst, .int .i64 Tkt.sT.vou, .int .i64 Tkt.sT.posts, .slice none 0 0]) ∧ TS w' Tkt.sT c' ⟨none, 0, 0⟩ ⟨none, 0, 0⟩ ∧ Below w.heap.size w w' := by
  have HM := Lib.hid (fun W => rMake_any 123 1 W)
  rw [Tkt.s_num] at HM
  have HB := Lib.hid ((Below.refl w.heap.size w).alloc (Nat.le_refl _) (.cells #[.int .u64 0, .string ⟨#[]⟩, .int .i64 0, .slice none 0 0, .slice none 0 0, .int .u64 0, .int .u64 0, .int .u64 0, .int .i64 0, .int .i64 0, .slice none 0 0] 27 (0, 0)))
  have HZ := Lib.hid (new_rowW w (.cells #[.int .u64 0, .string ⟨#[]⟩, .int .i64 0, .slice none 0 0, .slice none 0 0, .int .u64 0, .int .u64 0, .int .u64 0, .int .i64 0, .int .i64 0, .slice none 0 0] 27 (0, 0)) _ rfl)
  go_enter Try.func48, Try.ntmps48
  go_upto_region 2 with (go_at_call 93; refine (HM.out _).mono ?_; rintro e wn ⟨rfl, hbn⟩; have HW0 : Hid (w.heap.size < wn.heap.size) := Lib.hid (Nat.lt_of_lt_of_le (by simp) hbn.size); have HB := Lib.hid (HB.out.trans (hbn.mono HB.out.size)); have HZ := Lib.hid ((hbn.block _ (block_lt HZ.out)).trans HZ.out); clear hbn)
  have hbn := (Below.refl wn.heap.size wn).alloc (Nat.le_refl _) (.cells #[.int .i64 7, .int .i64 9, .int .i64 1000, .int .i64 1, .int .i64 0, .int .u64 0] 44 (0, 0))
  have HB := Lib.hid (HB.out.trans (hbn.mono HB.out.size)); have HZ := Lib.hid ((hbn.block _ (block_lt HZ.out)).trans HZ.out)
  have HL := Lib.hid (row_one (enc := Cpn.cells) (x := ⟨7, 9, 1000, 1, 0, 0⟩) (new_rowW wn (.cells #[.int .i64 7, .int .i64 9, .int .i64 1000, .int .i64 1, .int .i64 0, .int .u64 0] 44 (0, 0)) _ rfl) rfl Cpn.cells_length (by decide))
  clear hbn
  have th := there_rowT (n := 11) HZ.out rfl
  have h1n : ([.int .u64 1230000000014, .string ⟨#[65, 66, 67, 50, 51, 52]⟩, .int .i64 5, .slice (some ⟨wn.heap.size, 0, none⟩) 1 1, .slice none 0 0, .int .u64 0, .int .u64 1230000000014, .int .u64 1230000000014, .int .i64 0, .int .i64 0, .slice none 0 0] : List Value).length = 11 := rfl
  have h1c : ([.int .u64 1230000000014, .string ⟨#[65, 66, 67, 50, 51, 52]⟩, .int .i64 5, .slice (some ⟨wn.heap.size, 0, none⟩) 1 1, .slice none 0 0, .int .u64 0, .int .u64 1230000000014, .int .u64 1230000000014, .int .i64 0, .int .i64 0, .slice none 0 0] : List Value).all (·.oneCell') = true := rfl
  go_wp2
  have hr6 := setCells_rowT (g := w.heap.size) (cs := [.int .u64 1230000000014, .string ⟨#[65, 66, 67, 50, 51, 52]⟩, .int .i64 5, .slice (some ⟨wn.heap.size, 0, none⟩) 1 1, .slice none 0 0, .int .u64 0, .int .u64 1230000000014, .int .u64 1230000000014, .int .i64 0, .int .i64 0, .slice none 0 0]) HZ.out rfl
  have hon6 := (Only.refl w.heap.size (wn.alloc (.cells #[.int .i64 7, .int .i64 9, .int .i64 1000, .int .i64 1, .int .i64 0, .int .u64 0] 44 (0, 0)))).setCells 0 ([.int .u64 1230000000014, .string ⟨#[65, 66, 67, 50, 51, 52]⟩, .int .i64 5, .slice (some ⟨wn.heap.size, 0, none⟩) 1 1, .slice none 0 0, .int .u64 0, .int .u64 1230000000014, .int .u64 1230000000014, .int .i64 0, .int .i64 0, .slice none 0 0])
  generalize (wn.alloc (.cells #[.int .i64 7, .int .i64 9, .int .i64 1000, .int .i64 1, .int .i64 0, .int .u64 0] 44 (0, 0))).setCells w.heap.size 0 ([.int .u64 1230000000014, .string ⟨#[65, 66, 67, 50, 51, 52]⟩, .int .i64 5, .slice (some ⟨wn.heap.size, 0, none⟩) 1 1, .slice none 0 0, .int .u64 0, .int .u64 1230000000014, .int .u64 1230000000014, .int .i64 0, .int .i64 0, .slice none 0 0]) = w6 at *
  (try simp only [Exit.inBlock, Exit.then])
  refine bodyPost_ret (results_cellT rfl _ _ w.heap.size rfl (loadTk hr6 rfl)) rfl ?_
  refine ⟨⟨some ⟨wn.heap.size, 0, none⟩, 1, 1⟩, rfl, ⟨?_, LS.nil _, LS.nil _, Tkt.s_wf _ (.inl rfl)⟩, Only.below HB.out (Nat.le_refl _) HB.out.size hon6⟩
  refine HL.out.keep hon6.size (fun b hb hlt => hon6.block b hlt ?_)
  injection hb with hb
  simp only at hb
  have := block_lt HZ.out
  have hz := HB.out.size
  intro hbe
  subst hb
  have hw := HW0.out
  omega

set_option maxRecDepth 8000 in
set_option maxHeartbeats 4000000 in
theorem known13_any (w : World) : Calls Try.prog 12 #[] w fun e w' => e = .returned (.bool true) ∧ Below w.heap.size w w' := by
  have HM := Lib.hid (fun W c ts => tbytes_any Tkt.sT c ⟨none, 0, 0⟩ ⟨none, 0, 0⟩ W ts)
  rw [if_pos Tkt.s_may, if_pos Tkt.s_may] at HM
  have HC1 := Lib.hid (fun W c ts => tchange_any Tkt.sT c ⟨none, 0, 0⟩ ⟨none, 0, 0⟩ 1 9 9 124 ⟨by decide, by decide⟩ ⟨by decide, by decide⟩ ⟨by decide, by decide⟩ W ts)
  rw [Tkt.s_e1, Tkt.s_t1] at HC1
  have HC2 := Lib.hid (fun W c ts => tchange_any Tkt.sT c ⟨none, 0, 0⟩ ⟨none, 0, 0⟩ 1 9 9 126 ⟨by decide, by decide⟩ ⟨by decide, by decide⟩ ⟨by decide, by decide⟩ W ts)
  rw [Tkt.s_e2, Tkt.s_t2] at HC2
  have HC3 := Lib.hid (fun W c x h ts => tchange_any Tkt.sT2 c x h 1 9 1 0 ⟨by decide, by decide⟩ ⟨by decide, by decide⟩ ⟨by decide, by decide⟩ W ts)
  rw [Tkt.s_e3, Tkt.s_t3] at HC3
  rw [Tkt.s_len] at HM
  dsimp only at HM HC1 HC2
  have HS := Lib.hid (fun W => simple13_any W)
  have HB := Lib.hid (Below.refl w.heap.size w)
  go_enter Try.func12, Try.ntmps12
  go_upto_region 2 with (go_at_call 48; refine (HS.out _).mono ?_; rintro e wn ⟨c0, rfl, hts, hbn⟩; have HT1 := Lib.hid hts; clear hts; have HB := Lib.hid (HB.out.trans (hbn.mono HB.out.size)); have th := there_newT (w := wn) (zs := [.int .u64 0, .string ⟨#[]⟩, .int .i64 0, .slice none 0 0, .slice none 0 0, .int .u64 0, .int .u64 0, .int .u64 0, .int .i64 0, .int .i64 0, .slice none 0 0]) (e := 27) (n := 11) rfl; have h1n : ([.int .u64 Tkt.sT.num, .string Tkt.sT.loc, .int .i64 Tkt.sT.iss, .slice c0.p c0.n c0.c, .slice none 0 0, .int .u64 Tkt.sT.prev, .int .u64 Tkt.sT.org, .int .u64 Tkt.sT.fst, .int .i64 Tkt.sT.vou, .int .i64 Tkt.sT.posts, .slice none 0 0] : List Value).length = 11 := rfl; have h1c : ([.int .u64 Tkt.sT.num, .string Tkt.sT.loc, .int .i64 Tkt.sT.iss, .slice c0.p c0.n c0.c, .slice none 0 0, .int .u64 Tkt.sT.prev, .int .u64 Tkt.sT.org, .int .u64 Tkt.sT.fst, .int .i64 Tkt.sT.vou, .int .i64 Tkt.sT.posts, .slice none 0 0] : List Value).all (·.oneCell') = true := rfl; clear hbn)
  have HP := Lib.hid (putTk (W := wn) (cs := [.int .u64 Tkt.sT.num, .string Tkt.sT.loc, .int .i64 Tkt.sT.iss, .slice c0.p c0.n c0.c, .slice none 0 0, .int .u64 Tkt.sT.prev, .int .u64 Tkt.sT.org, .int .u64 Tkt.sT.fst, .int .i64 Tkt.sT.vou, .int .i64 Tkt.sT.posts, .slice none 0 0]) rfl)
  have HT1 := Lib.hid (HT1.out.below HP.out.2)
  have HB := Lib.hid (HB.out.trans (HP.out.2.mono HB.out.size))
  have HRg1 := Lib.hid HP.out.1
  clear HP th h1n h1c
  generalize (wn.alloc (.cells #[.int .u64 0, .string ⟨#[]⟩, .int .i64 0, .slice none 0 0, .slice none 0 0, .int .u64 0, .int .u64 0, .int .u64 0, .int .i64 0, .int .i64 0, .slice none 0 0] 27 (0, 0))).setCells wn.heap.size 0 [.int .u64 Tkt.sT.num, .string Tkt.sT.loc, .int .i64 Tkt.sT.iss, .slice c0.p c0.n c0.c, .slice none 0 0, .int .u64 Tkt.sT.prev, .int .u64 Tkt.sT.org, .int .u64 Tkt.sT.fst, .int .i64 Tkt.sT.vou, .int .i64 Tkt.sT.posts, .slice none 0 0] = w1 at *
  generalize wn.heap.size = g1 at *
  obtain ⟨f1, f2⟩ := row_loT 11 HRg1.out rfl rfl
  go_upto_region 4 with (first | (go_at_call 21; refine (HM.out _ c0 HT1.out).mono ?_; rintro e wn ⟨bv, rfl, hown, hbn⟩; obtain ⟨bq, bz, rfl⟩ := rec_formT hown; clear hown; have HT1 := Lib.hid (HT1.out.below hbn); have HRg1 := Lib.hid ((hbn.block _ (block_lt HRg1.out)).trans HRg1.out); have HB := Lib.hid (HB.out.trans (hbn.mono HB.out.size)); clear hbn; obtain ⟨f1, f2⟩ := row_loT 11 HRg1.out rfl rfl) | (go_at_call 14; refine (HC1.out _ c0 HT1.out).mono ?_; rintro e wn ⟨⟨q1, n1, z1⟩, ⟨q2, n2, z2⟩, ⟨q3, n3, z3⟩, rfl, hw1, hw2, hw3, hbn⟩; rw [show Tkt.zTk.cs.length = 0 from rfl] at hw1; rw [show Tkt.zTk.ts.length = 0 from rfl] at hw2; rw [show Tkt.zTk.hs.length = 0 from rfl] at hw3; dsimp only at hw1 hw2 hw3; obtain ⟨qq1, zz1, hv1⟩ := rec_formT hw1; obtain ⟨qq2, zz2, hv2⟩ := rec_formT hw2; obtain ⟨qq3, zz3, hv3⟩ := rec_formT hw3; injection hv1 with e1 e2 e3; injection hv2 with e4 e5 e6; injection hv3 with e7 e8 e9; subst e1 e2 e3 e4 e5 e6 e7 e8 e9; clear hw1 hw2 hw3; have HT1 := Lib.hid (HT1.out.below hbn); have HRg1 := Lib.hid ((hbn.block _ (block_lt HRg1.out)).trans HRg1.out); have HB := Lib.hid (HB.out.trans (hbn.mono HB.out.size)); have th := there_newT (w := wn) (zs := [.int .u64 0, .string ⟨#[]⟩, .int .i64 0, .slice none 0 0, .slice none 0 0, .int .u64 0, .int .u64 0, .int .u64 0, .int .i64 0, .int .i64 0, .slice none 0 0]) (e := 27) (n := 11) rfl; have h1n : ([.int .u64 Tkt.zTk.num, .string Tkt.zTk.loc, .int .i64 Tkt.zTk.iss, .slice q1 0 z1, .slice q2 0 z2, .int .u64 Tkt.zTk.prev, .int .u64 Tkt.zTk.org, .int .u64 Tkt.zTk.fst, .int .i64 Tkt.zTk.vou, .int .i64 Tkt.zTk.posts, .slice q3 0 z3] : List Value).length = 11 := rfl; have h1c : ([.int .u64 Tkt.zTk.num, .string Tkt.zTk.loc, .int .i64 Tkt.zTk.iss, .slice q1 0 z1, .slice q2 0 z2, .int .u64 Tkt.zTk.prev, .int .u64 Tkt.zTk.org, .int .u64 Tkt.zTk.fst, .int .i64 Tkt.zTk.vou, .int .i64 Tkt.zTk.posts, .slice q3 0 z3] : List Value).all (·.oneCell') = true := rfl; clear hbn))
  have HP := Lib.hid (putTk (W := wn) (cs := [.int .u64 Tkt.zTk.num, .string Tkt.zTk.loc, .int .i64 Tkt.zTk.iss, .slice q1 0 z1, .slice q2 0 z2, .int .u64 Tkt.zTk.prev, .int .u64 Tkt.zTk.org, .int .u64 Tkt.zTk.fst, .int .i64 Tkt.zTk.vou, .int .i64 Tkt.zTk.posts, .slice q3 0 z3]) rfl)
  have HT1 := Lib.hid (HT1.out.below HP.out.2)
  have HRg1 := Lib.hid ((HP.out.2.block _ (block_lt HRg1.out)).trans HRg1.out)
  have HB := Lib.hid (HB.out.trans (HP.out.2.mono HB.out.size))
  have HRg4 := Lib.hid HP.out.1
  clear HP th h1n h1c
  generalize (wn.alloc (.cells #[.int .u64 0, .string ⟨#[]⟩, .int .i64 0, .slice none 0 0, .slice none 0 0, .int .u64 0, .int .u64 0, .int .u64 0, .int .i64 0, .int .i64 0, .slice none 0 0] 27 (0, 0))).setCells wn.heap.size 0 [.int .u64 Tkt.zTk.num, .string Tkt.zTk.loc, .int .i64 Tkt.zTk.iss, .slice q1 0 z1, .slice q2 0 z2, .int .u64 Tkt.zTk.prev, .int .u64 Tkt.zTk.org, .int .u64 Tkt.zTk.fst, .int .i64 Tkt.zTk.vou, .int .i64 Tkt.zTk.posts, .slice q3 0 z3] = w4 at *
  generalize wn.heap.size = g4 at *
  obtain ⟨f1, f2⟩ := row_loT 11 HRg1.out rfl rfl
  have hc4 := fun j => cell_of_row w4 g4 j _ _ _ HRg4.out
  go_upto_region 7 with (go_at_call 14; refine (HC2.out _ c0 HT1.out).mono ?_; rintro e wn ⟨⟨q1, n1, z1⟩, ⟨q2, n2, z2⟩, ⟨q3, n3, z3⟩, rfl, hw1, hw2, hw3, hbn⟩; rw [show Tkt.sT2.cs.length = 1 from rfl] at hw1; rw [show Tkt.sT2.ts.length = 0 from rfl] at hw2; rw [show Tkt.sT2.hs.length = 1 from rfl] at hw3; dsimp only at hw1 hw2 hw3; obtain ⟨cb, zz1, hv1⟩ := own_someT hw1 (by decide); obtain ⟨qq2, zz2, hv2⟩ := rec_formT hw2; obtain ⟨qq3, zz3, hv3⟩ := rec_formT hw3; injection hv1 with e1 e2 e3; injection hv2 with e4 e5 e6; injection hv3 with e7 e8 e9; subst e1 e2 e3 e4 e5 e6 e7 e8 e9; have HO6 := Lib.hid hw1; have HT6 := Lib.hid (TS.of_own (t := Tkt.sT2) (c := ⟨some ⟨cb, 0, none⟩, 1, z1⟩) (x := ⟨q2, 0, z2⟩) (h := ⟨q3, 1, z3⟩) (Tkt.s_wf _ (.inr rfl)) hw1 hw2 hw3); clear hw1 hw2 hw3; have HB := Lib.hid (HB.out.trans (hbn.mono HB.out.size)); have th := there_newT (w := wn) (zs := [.int .u64 0, .string ⟨#[]⟩, .int .i64 0, .slice none 0 0, .slice none 0 0, .int .u64 0, .int .u64 0, .int .u64 0, .int .i64 0, .int .i64 0, .slice none 0 0]) (e := 27) (n := 11) rfl; have h1n : ([.int .u64 Tkt.sT2.num, .string Tkt.sT2.loc, .int .i64 Tkt.sT2.iss, .slice (some ⟨cb, 0, none⟩) 1 z1, .slice q2 0 z2, .int .u64 Tkt.sT2.prev, .int .u64 Tkt.sT2.org, .int .u64 Tkt.sT2.fst, .int .i64 Tkt.sT2.vou, .int .i64 Tkt.sT2.posts, .slice q3 1 z3] : List Value).length = 11 := rfl; have h1c : ([.int .u64 Tkt.sT2.num, .string Tkt.sT2.loc, .int .i64 Tkt.sT2.iss, .slice (some ⟨cb, 0, none⟩) 1 z1, .slice q2 0 z2, .int .u64 Tkt.sT2.prev, .int .u64 Tkt.sT2.org, .int .u64 Tkt.sT2.fst, .int .i64 Tkt.sT2.vou, .int .i64 Tkt.sT2.posts, .slice q3 1 z3] : List Value).all (·.oneCell') = true := rfl; clear hbn)
  clear hc4
  have HP := Lib.hid (putTk (W := wn) (cs := [.int .u64 Tkt.sT2.num, .string Tkt.sT2.loc, .int .i64 Tkt.sT2.iss, .slice (some ⟨cb, 0, none⟩) 1 z1, .slice q2 0 z2, .int .u64 Tkt.sT2.prev, .int .u64 Tkt.sT2.org, .int .u64 Tkt.sT2.fst, .int .i64 Tkt.sT2.vou, .int .i64 Tkt.sT2.posts, .slice q3 1 z3]) rfl)
  have HO6 := Lib.hid (recs_below HO6.out HP.out.2)
  have HT6 := Lib.hid (HT6.out.below HP.out.2)
  have HB := Lib.hid (HB.out.trans (HP.out.2.mono HB.out.size))
  have HRg6 := Lib.hid HP.out.1
  clear HP th h1n h1c
  generalize (wn.alloc (.cells #[.int .u64 0, .string ⟨#[]⟩, .int .i64 0, .slice none 0 0, .slice none 0 0, .int .u64 0, .int .u64 0, .int .u64 0, .int .i64 0, .int .i64 0, .slice none 0 0] 27 (0, 0))).setCells wn.heap.size 0 [.int .u64 Tkt.sT2.num, .string Tkt.sT2.loc, .int .i64 Tkt.sT2.iss, .slice (some ⟨cb, 0, none⟩) 1 z1, .slice q2 0 z2, .int .u64 Tkt.sT2.prev, .int .u64 Tkt.sT2.org, .int .u64 Tkt.sT2.fst, .int .i64 Tkt.sT2.vou, .int .i64 Tkt.sT2.posts, .slice q3 1 z3] = w6 at *
  generalize wn.heap.size = g6 at *
  have HC3 := Lib.hid (fun W => HC3.out W ⟨some ⟨cb, 0, none⟩, 1, z1⟩ ⟨q2, 0, z2⟩ ⟨q3, 1, z3⟩)
  dsimp only at HC3
  obtain ⟨f1, f2⟩ := row_loT 11 HRg6.out rfl rfl
  go_upto_region 8 with (go_at_call 14; refine (HC3.out _ HT6.out).mono ?_; rintro e wn ⟨⟨s1, m1, y1⟩, ⟨s2, m2, y2⟩, ⟨s3, m3, y3⟩, rfl, hw1, hw2, hw3, hbn⟩; rw [show Tkt.sT3.cs.length = 1 from rfl] at hw1; rw [show Tkt.sT3.ts.length = 0 from rfl] at hw2; rw [show Tkt.sT3.hs.length = 2 from rfl] at hw3; dsimp only at hw1 hw2 hw3; obtain ⟨cd, zz1, hv1⟩ := own_someT hw1 (by decide); obtain ⟨qq2, zz2, hv2⟩ := rec_formT hw2; obtain ⟨qq3, zz3, hv3⟩ := rec_formT hw3; injection hv1 with e1 e2 e3; injection hv2 with e4 e5 e6; injection hv3 with e7 e8 e9; subst e1 e2 e3 e4 e5 e6 e7 e8 e9; have HO8 := Lib.hid hw1; clear hw1 hw2 hw3; have HO6 := Lib.hid (recs_below HO6.out hbn); have HRg6 := Lib.hid ((hbn.block _ (block_lt HRg6.out)).trans HRg6.out); have HB := Lib.hid (HB.out.trans (hbn.mono HB.out.size)); have th := there_newT (w := wn) (zs := [.int .u64 0, .string ⟨#[]⟩, .int .i64 0, .slice none 0 0, .slice none 0 0, .int .u64 0, .int .u64 0, .int .u64 0, .int .i64 0, .int .i64 0, .slice none 0 0]) (e := 27) (n := 11) rfl; have h1n : ([.int .u64 Tkt.sT3.num, .string Tkt.sT3.loc, .int .i64 Tkt.sT3.iss, .slice (some ⟨cd, 0, none⟩) 1 y1, .slice s2 0 y2, .int .u64 Tkt.sT3.prev, .int .u64 Tkt.sT3.org, .int .u64 Tkt.sT3.fst, .int .i64 Tkt.sT3.vou, .int .i64 Tkt.sT3.posts, .slice s3 2 y3] : List Value).length = 11 := rfl; have h1c : ([.int .u64 Tkt.sT3.num, .string Tkt.sT3.loc, .int .i64 Tkt.sT3.iss, .slice (some ⟨cd, 0, none⟩) 1 y1, .slice s2 0 y2, .int .u64 Tkt.sT3.prev, .int .u64 Tkt.sT3.org, .int .u64 Tkt.sT3.fst, .int .i64 Tkt.sT3.vou, .int .i64 Tkt.sT3.posts, .slice s3 2 y3] : List Value).all (·.oneCell') = true := rfl; clear hbn)
  have HP := Lib.hid (putTk (W := wn) (cs := [.int .u64 Tkt.sT3.num, .string Tkt.sT3.loc, .int .i64 Tkt.sT3.iss, .slice (some ⟨cd, 0, none⟩) 1 y1, .slice s2 0 y2, .int .u64 Tkt.sT3.prev, .int .u64 Tkt.sT3.org, .int .u64 Tkt.sT3.fst, .int .i64 Tkt.sT3.vou, .int .i64 Tkt.sT3.posts, .slice s3 2 y3]) rfl)
  have HO6 := Lib.hid (recs_below HO6.out HP.out.2)
  have HO8 := Lib.hid (recs_below HO8.out HP.out.2)
  have HRg6 := Lib.hid ((HP.out.2.block _ (block_lt HRg6.out)).trans HRg6.out)
  have HB := Lib.hid (HB.out.trans (HP.out.2.mono HB.out.size))
  have HRg8 := Lib.hid HP.out.1
  clear HP th h1n h1c
  generalize (wn.alloc (.cells #[.int .u64 0, .string ⟨#[]⟩, .int .i64 0, .slice none 0 0, .slice none 0 0, .int .u64 0, .int .u64 0, .int .u64 0, .int .i64 0, .int .i64 0, .slice none 0 0] 27 (0, 0))).setCells wn.heap.size 0 [.int .u64 Tkt.sT3.num, .string Tkt.sT3.loc, .int .i64 Tkt.sT3.iss, .slice (some ⟨cd, 0, none⟩) 1 y1, .slice s2 0 y2, .int .u64 Tkt.sT3.prev, .int .u64 Tkt.sT3.org, .int .u64 Tkt.sT3.fst, .int .i64 Tkt.sT3.vou, .int .i64 Tkt.sT3.posts, .slice s3 2 y3] = w8 at *
  generalize wn.heap.size = g8 at *
  have hc6 := fun j => cell_of_row w8 g6 j _ _ _ HRg6.out
  have hc8 := fun j => cell_of_row w8 g8 j _ _ _ HRg8.out
  have k6 : w8.cell? ⟨cb, 4, none⟩ = some (.int .i64 126) := (own_cellT (i := 0) (x := (⟨7, 9, 1000, 9, 126, 0⟩ : Cpn)) Cpn.cells_length HO6.out rfl (by decide : 4 < 6)).1
  have k8 : w8.cell? ⟨cd, 4, none⟩ = some (.int .i64 0) := (own_cellT (i := 0) (x := (⟨7, 9, 1000, 1, 0, 0⟩ : Cpn)) Cpn.cells_length HO8.out rfl (by decide : 4 < 6)).1
  go_wp2
  go_ret
  exact ⟨rfl, HB.out⟩
end Go.Proofs.Ytmadkfahkbdibaa
