/- Contracts: ticket.At; the reference's Much and Copy (13). -/
import Derived.Test.YtmadkfahkbdibaaTkV
set_option linter.unusedVariables false
set_option linter.unusedSimpArgs false
namespace Go.Proofs.Ytmadkfahkbdibaa
open Go.RowKit

attribute [local go_sem ↓] Tk_execLoad Tk_execStore
attribute [local go_sem] Tk_load Tk_store loL_drew okL_drew there_sc World.there_drew
def Tkt.atL (u : Int) (t : Tk) : List Int := if Tkt.mayB t = true then Tkt.thenL u t else []
set_option maxRecDepth 4000 in
set_option maxHeartbeats 4000000 in
theorem tat_any (t : Tk) (c x h : Sl) (u : Int) (w : World) (ts : TS w t c x h) : Calls Try.prog 20 #[.agg #[.int .u64 t.num, .string t.loc, .int .i64 t.iss, .slice c.p c.n c.c, .slice x.p x.n x.c, .int .u64 t.prev, .int .u64 t.org, .int .u64 t.fst, .int .i64 t.vou, .int .i64 t.posts, .slice h.p h.n h.c], .int .i64 u] w fun e w' => ∃ v, e = .returned v ∧ w'.ownsRow w.heap.size 35 1 v (Tkt.atL u t).length (List.map (Value.int .i64) (Tkt.atL u t)) ∧ Below w.heap.size w w' := by
  have HM := Lib.hid (fun W hW => tmay_any t c x h W (ts.below hW))
  have HTO := Lib.hid (fun W (hW : Below w.heap.size w W) => told_any t c x h u W (ts.below hW))
  have HB := Lib.hid ((Below.refl w.heap.size w).alloc (Nat.le_refl _) (.cells #[.int .u64 t.num, .string t.loc, .int .i64 t.iss, .slice c.p c.n c.c, .slice x.p x.n x.c, .int .u64 t.prev, .int .u64 t.org, .int .u64 t.fst, .int .i64 t.vou, .int .i64 t.posts, .slice h.p h.n h.c] 27 (0, 0)))
  have HR := Lib.hid (new_rowW w (.cells #[.int .u64 t.num, .string t.loc, .int .i64 t.iss, .slice c.p c.n c.c, .slice x.p x.n x.c, .int .u64 t.prev, .int .u64 t.org, .int .u64 t.fst, .int .i64 t.vou, .int .i64 t.posts, .slice h.p h.n h.c] 27 (0, 0)) _ rfl)
  obtain ⟨f1, f2⟩ := row_loT 11 HR.out rfl rfl
  obtain ⟨L, hL⟩ : ∃ L, Tkt.atL u t = L := ⟨_, rfl⟩
  rw [hL]
  have HL := Lib.hid hL
  clear hL
  obtain ⟨mb, hmb⟩ : ∃ m, Tkt.mayB t = m := ⟨_, rfl⟩
  have HMB := Lib.hid hmb
  rw [hmb] at HM
  clear hmb ts
  cases mb
  · have hl : L = [] := by rw [← HL.out, Tkt.atL, if_neg (by rw [HMB.out]; simp)]
    subst hl
    go_enter Try.func20, Try.ntmps20
    go_wp2_with (go_at_call 17; refine (HM.out _ HB.out).mono ?_; rintro e wn ⟨rfl, hbn⟩; have HB := Lib.hid (HB.out.trans (hbn.mono HB.out.size)); have HR := Lib.hid ((hbn.block _ (block_lt HR.out)).trans HR.out); obtain ⟨f1, f2⟩ := row_loT 11 HR.out rfl rfl; clear hbn)
    go_ret
    exact ⟨.slice none 0 0, rfl, World.ownsRow_nil _ _ _ _, HB.out⟩
  · have hl : L = Tkt.thenL u t := by rw [← HL.out, Tkt.atL, if_pos HMB.out]
    have hlens := Tkt.mayB_lens HMB.out
    have hiss : 0 ≤ t.iss := by
      have := HMB.out
      unfold Tkt.mayB Tkt.headB Tkt.dayB at this
      simp at this
      omega
    have hh : Tkt.histB u t = true := by
      have := HMB.out
      unfold Tkt.mayB at this
      simp only [Bool.and_eq_true] at this
      rw [Tkt.histB_any u 0]
      exact this.2
    have HLE := Lib.hid hlens; have HI := Lib.hid hiss; have HH := Lib.hid hh; have HLL := Lib.hid hl
    clear hl hlens hiss hh
    go_enter Try.func20, Try.ntmps20
    go_wp2_with (first | (go_at_call 17; refine (HM.out _ HB.out).mono ?_; rintro e wn ⟨rfl, hbn⟩; have HB := Lib.hid (HB.out.trans (hbn.mono HB.out.size)); have HR := Lib.hid ((hbn.block _ (block_lt HR.out)).trans HR.out); obtain ⟨f1, f2⟩ := row_loT 11 HR.out rfl rfl; clear hbn) | (go_at_call 60; refine (HTO.out _ HB.out HLE.out.1 (by have := HLE.out; omega) HI.out).mono ?_; rintro e wn ⟨⟨v, thn, rfl, hown, hth⟩, hbn⟩; have HOW := Lib.hid hown; have HTH := Lib.hid hth; have HBN := Lib.hid hbn; clear hown hth hbn))
    go_ret
    have hth := HTH.out HH.out
    refine ⟨v, rfl, ?_, HB.out.trans (HBN.out.mono HB.out.size)⟩
    have hle : L.length = t.cs.length := by
      have := HOW.out.1
      rw [List.length_map, hth, ← HLL.out] at this
      omega
    rw [hle, HLL.out, ← hth]
    exact own_monoT HOW.out HB.out.size
def Tkt.muchB (t : Tk) : Bool := decide (20 < t.cs.length) || decide (20 < t.ts.length) || decide (100 < t.hs.length) || decide (100 < t.loc.size)
set_option maxRecDepth 4000 in
set_option maxHeartbeats 4000000 in
theorem rmuch_any (t : Tk) (c x h : Sl) (w : World) (ts : TS w t c x h) : Calls Try.prog 11 #[.agg #[.int .u64 t.num, .string t.loc, .int .i64 t.iss, .slice c.p c.n c.c, .slice x.p x.n x.c, .int .u64 t.prev, .int .u64 t.org, .int .u64 t.fst, .int .i64 t.vou, .int .i64 t.posts, .slice h.p h.n h.c]] w fun e w' => e = .returned (.bool (Tkt.muchB t)) ∧ Below w.heap.size w w' := by
  have HB := Lib.hid ((Below.refl w.heap.size w).alloc (Nat.le_refl _) (.cells #[.int .u64 t.num, .string t.loc, .int .i64 t.iss, .slice c.p c.n c.c, .slice x.p x.n x.c, .int .u64 t.prev, .int .u64 t.org, .int .u64 t.fst, .int .i64 t.vou, .int .i64 t.posts, .slice h.p h.n h.c] 27 (0, 0)))
  have HR := Lib.hid (new_rowW w (.cells #[.int .u64 t.num, .string t.loc, .int .i64 t.iss, .slice c.p c.n c.c, .slice x.p x.n x.c, .int .u64 t.prev, .int .u64 t.org, .int .u64 t.fst, .int .i64 t.vou, .int .i64 t.posts, .slice h.p h.n h.c] 27 (0, 0)) _ rfl)
  have hc := fun j => cell_of_row _ w.heap.size j _ _ _ HR.out
  have H1 := Lib.hid ts.cs.length; have H2 := Lib.hid ts.ts.length; have H3 := Lib.hid ts.hs.length
  have hl1 := ts.cs.length.2; have hl2 := ts.ts.length.2; have hl3 := ts.hs.length.2; have hl4 := ts.wf.loc
  unfold maxLen at hl1 hl2 hl3 hl4
  clear ts
  go_enter Try.func11, Try.ntmps11
  go_wp2_with fail
  all_goals
    go_ret
    refine ⟨ret_bool ?_, HB.out⟩
    have h1 := H1.out.1; have h2 := H2.out.1; have h3 := H3.out.1
    unfold Tkt.muchB
    rw [← h1, ← h2, ← h3, Bool.eq_iff_iff]
    clear h1 h2 h3 hc
    simp_all
    try omega

set_option maxRecDepth 4000 in
set_option maxHeartbeats 4000000 in
theorem rcopy_any (t : Tk) (c x h : Sl) (w : World) (ts : TS w t c x h) (h1 : t.cs.length ≤ 1000) (h2 : t.ts.length ≤ 1000) (h3 : t.hs.length ≤ 1000) : Calls Try.prog 13 #[.agg #[.int .u64 t.num, .string t.loc, .int .i64 t.iss, .slice c.p c.n c.c, .slice x.p x.n x.c, .int .u64 t.prev, .int .u64 t.org, .int .u64 t.fst, .int .i64 t.vou, .int .i64 t.posts, .slice h.p h.n h.c]] w fun e w' =>
    ∃ c' x' h' : Sl, e = .returned (.agg #[.int .u64 t.num, .string t.loc, .int .i64 t.iss, .slice c'.p c'.n c'.c, .slice x'.p x'.n x'.c, .int .u64 t.prev, .int .u64 t.org, .int .u64 t.fst, .int .i64 t.vou, .int .i64 t.posts, .slice h'.p h'.n h'.c]) ∧ w'.ownsRow w.heap.size 44 6 (.slice c'.p c'.n c'.c) t.cs.length (encL Cpn.cells t.cs) ∧ w'.ownsRow w.heap.size 48 2 (.slice x'.p x'.n x'.c) t.ts.length (encL Txx.cells t.ts) ∧ w'.ownsRow w.heap.size 46 4 (.slice h'.p h'.n h'.c) t.hs.length (encL Evt.cells t.hs) ∧ Below w.heap.size w w' := by
  have HTS := Lib.hid ts
  have HB := Lib.hid (((Below.refl w.heap.size w).alloc (Nat.le_refl _) (.cells #[.int .u64 t.num, .string t.loc, .int .i64 t.iss, .slice c.p c.n c.c, .slice x.p x.n x.c, .int .u64 t.prev, .int .u64 t.org, .int .u64 t.fst, .int .i64 t.vou, .int .i64 t.posts, .slice h.p h.n h.c] 27 (0, 0))).alloc (by simp) (.cells #[.int .u64 0, .string ⟨#[]⟩, .int .i64 0, .slice none 0 0, .slice none 0 0, .int .u64 0, .int .u64 0, .int .u64 0, .int .i64 0, .int .i64 0, .slice none 0 0] 27 (0, 0)))
  have HR : Hid (((w.alloc (.cells #[.int .u64 t.num, .string t.loc, .int .i64 t.iss, .slice c.p c.n c.c, .slice x.p x.n x.c, .int .u64 t.prev, .int .u64 t.org, .int .u64 t.fst, .int .i64 t.vou, .int .i64 t.posts, .slice h.p h.n h.c] 27 (0, 0))).alloc (.cells #[.int .u64 0, .string ⟨#[]⟩, .int .i64 0, .slice none 0 0, .slice none 0 0, .int .u64 0, .int .u64 0, .int .u64 0, .int .i64 0, .int .i64 0, .slice none 0 0] 27 (0, 0))).heap[w.heap.size]? = some (.cells #[.int .u64 t.num, .string t.loc, .int .i64 t.iss, .slice c.p c.n c.c, .slice x.p x.n x.c, .int .u64 t.prev, .int .u64 t.org, .int .u64 t.fst, .int .i64 t.vou, .int .i64 t.posts, .slice h.p h.n h.c] 27 (0, 0))) := Lib.hid (row_after (new_rowW _ _ _ rfl))
  have HZ : Hid (((w.alloc (.cells #[.int .u64 t.num, .string t.loc, .int .i64 t.iss, .slice c.p c.n c.c, .slice x.p x.n x.c, .int .u64 t.prev, .int .u64 t.org, .int .u64 t.fst, .int .i64 t.vou, .int .i64 t.posts, .slice h.p h.n h.c] 27 (0, 0))).alloc (.cells #[.int .u64 0, .string ⟨#[]⟩, .int .i64 0, .slice none 0 0, .slice none 0 0, .int .u64 0, .int .u64 0, .int .u64 0, .int .i64 0, .int .i64 0, .slice none 0 0] 27 (0, 0))).heap[w.heap.size + 1]? = some (.cells #[.int .u64 0, .string ⟨#[]⟩, .int .i64 0, .slice none 0 0, .slice none 0 0, .int .u64 0, .int .u64 0, .int .u64 0, .int .i64 0, .int .i64 0, .slice none 0 0] 27 (0, 0))) := Lib.hid (new_rowW _ _ _ (by simp))
  have hc := fun j => cell_of_row _ w.heap.size j _ _ _ HR.out
  clear ts
  go_enter Try.func13, Try.ntmps13
  have HLS1 := Lib.hid (HTS.out.cs.below HB.out)
  go_upto_region 2 with (at_builtin; refine wpList_append_recs elemCp rfl _ _ rfl w.heap.size (.slice none 0 0) 0 [] rfl (World.ownsRow_nil _ _ _ _) _ t.cs rfl HLS1.out (by omega) HB.out.size ?_; intro v1 w1 hown hg hnn hat; rw [Nat.zero_add, List.nil_append] at hown; obtain ⟨q1, z1, rfl⟩ := rec_formT hown; have O1 := Lib.hid hown; have hbn := ((Below.refl _ _).grown hg (Nat.le_refl _) (fun b hb => by cases hb)); have HB := Lib.hid (HB.out.trans (hbn.mono HB.out.size)); have HR := Lib.hid ((hbn.block _ (block_lt HR.out)).trans HR.out); have HZ := Lib.hid ((hbn.block _ (block_lt HZ.out)).trans HZ.out); have hc := fun j => cell_of_row _ w.heap.size j _ _ _ HR.out; have kf := fun j => frozen_of_row _ w.heap.size j _ _ HR.out; clear hown hg hnn hat hbn)
  have HR2 : Hid ((w1.setCell ⟨w.heap.size, 3, none⟩ (.slice q1 t.cs.length z1)).heap[w.heap.size]? = some (.cells #[.int .u64 t.num, .string t.loc, .int .i64 t.iss, .slice q1 t.cs.length z1, .slice x.p x.n x.c, .int .u64 t.prev, .int .u64 t.org, .int .u64 t.fst, .int .i64 t.vou, .int .i64 t.posts, .slice h.p h.n h.c] 27 (0, 0))) := Lib.hid (heap_setCell_same _ _ 3 _ _ (.slice q1 t.cs.length z1) HR.out)
  have HON := Lib.hid ((Only.refl w.heap.size w1).setCell 3 (.slice q1 t.cs.length z1))
  clear hc kf
  generalize (w1.setCell ⟨w.heap.size, 3, none⟩ (.slice q1 t.cs.length z1)) = wb at *
  have HZ := Lib.hid ((HON.out.block _ (block_lt HZ.out) (by omega)).trans HZ.out)
  have O1 := Lib.hid (recs_keep O1.out (fun b hb hlt => HON.out.block b hlt (own_neT O1.out HR.out (by decide) b hb)))
  have HB := Lib.hid (Only.below HB.out (Nat.le_refl _) HB.out.size HON.out)
  have HR := HR2
  clear HON HR2
  have hc := fun j => cell_of_row _ w.heap.size j _ _ _ HR.out
  have kf := fun j => frozen_of_row _ w.heap.size j _ _ HR.out
  have HLS2 := Lib.hid (HTS.out.ts.below HB.out)
  go_upto_region 3 with (at_builtin; refine wpList_append_recs elemTx rfl _ _ rfl w.heap.size (.slice none 0 0) 0 [] rfl (World.ownsRow_nil _ _ _ _) _ t.ts rfl HLS2.out (by omega) HB.out.size ?_; intro v2 w2 hown hg hnn hat; rw [Nat.zero_add, List.nil_append] at hown; obtain ⟨q2, z2, rfl⟩ := rec_formT hown; have O2 := Lib.hid hown; have hbn := ((Below.refl _ _).grown hg (Nat.le_refl _) (fun b hb => by cases hb)); have O1 := Lib.hid (recs_below O1.out hbn); have HB := Lib.hid (HB.out.trans (hbn.mono HB.out.size)); have HR := Lib.hid ((hbn.block _ (block_lt HR.out)).trans HR.out); have HZ := Lib.hid ((hbn.block _ (block_lt HZ.out)).trans HZ.out); have hc := fun j => cell_of_row _ w.heap.size j _ _ _ HR.out; have kf := fun j => frozen_of_row _ w.heap.size j _ _ HR.out; clear hown hg hnn hat hbn)
  have HR2 : Hid ((w2.setCell ⟨w.heap.size, 4, none⟩ (.slice q2 t.ts.length z2)).heap[w.heap.size]? = some (.cells #[.int .u64 t.num, .string t.loc, .int .i64 t.iss, .slice q1 t.cs.length z1, .slice q2 t.ts.length z2, .int .u64 t.prev, .int .u64 t.org, .int .u64 t.fst, .int .i64 t.vou, .int .i64 t.posts, .slice h.p h.n h.c] 27 (0, 0))) := Lib.hid (heap_setCell_same _ _ 4 _ _ (.slice q2 t.ts.length z2) HR.out)
  have HON := Lib.hid ((Only.refl w.heap.size w2).setCell 4 (.slice q2 t.ts.length z2))
  clear hc kf
  generalize (w2.setCell ⟨w.heap.size, 4, none⟩ (.slice q2 t.ts.length z2)) = wb at *
  have HZ := Lib.hid ((HON.out.block _ (block_lt HZ.out) (by omega)).trans HZ.out)
  have O1 := Lib.hid (recs_keep O1.out (fun b hb hlt => HON.out.block b hlt (own_neT O1.out HR.out (by decide) b hb)))
  have O2 := Lib.hid (recs_keep O2.out (fun b hb hlt => HON.out.block b hlt (own_neT O2.out HR.out (by decide) b hb)))
  have HB := Lib.hid (Only.below HB.out (Nat.le_refl _) HB.out.size HON.out)
  have HR := HR2
  clear HON HR2
  have hc := fun j => cell_of_row _ w.heap.size j _ _ _ HR.out
  have kf := fun j => frozen_of_row _ w.heap.size j _ _ HR.out
  have HLS3 := Lib.hid (HTS.out.hs.below HB.out)
  go_upto_region 4 with (at_builtin; refine wpList_append_recs elemEv rfl _ _ rfl w.heap.size (.slice none 0 0) 0 [] rfl (World.ownsRow_nil _ _ _ _) _ t.hs rfl HLS3.out (by omega) HB.out.size ?_; intro v3 w3 hown hg hnn hat; rw [Nat.zero_add, List.nil_append] at hown; obtain ⟨q3, z3, rfl⟩ := rec_formT hown; have O3 := Lib.hid hown; have hbn := ((Below.refl _ _).grown hg (Nat.le_refl _) (fun b hb => by cases hb)); have O1 := Lib.hid (recs_below O1.out hbn); have O2 := Lib.hid (recs_below O2.out hbn); have HB := Lib.hid (HB.out.trans (hbn.mono HB.out.size)); have HR := Lib.hid ((hbn.block _ (block_lt HR.out)).trans HR.out); have HZ := Lib.hid ((hbn.block _ (block_lt HZ.out)).trans HZ.out); have hc := fun j => cell_of_row _ w.heap.size j _ _ _ HR.out; have kf := fun j => frozen_of_row _ w.heap.size j _ _ HR.out; clear hown hg hnn hat hbn)
  have HR2 : Hid ((w3.setCell ⟨w.heap.size, 10, none⟩ (.slice q3 t.hs.length z3)).heap[w.heap.size]? = some (.cells #[.int .u64 t.num, .string t.loc, .int .i64 t.iss, .slice q1 t.cs.length z1, .slice q2 t.ts.length z2, .int .u64 t.prev, .int .u64 t.org, .int .u64 t.fst, .int .i64 t.vou, .int .i64 t.posts, .slice q3 t.hs.length z3] 27 (0, 0))) := Lib.hid (heap_setCell_same _ _ 10 _ _ (.slice q3 t.hs.length z3) HR.out)
  have HON := Lib.hid ((Only.refl w.heap.size w3).setCell 10 (.slice q3 t.hs.length z3))
  clear hc kf
  generalize (w3.setCell ⟨w.heap.size, 10, none⟩ (.slice q3 t.hs.length z3)) = wb at *
  have HZ := Lib.hid ((HON.out.block _ (block_lt HZ.out) (by omega)).trans HZ.out)
  have O1 := Lib.hid (recs_keep O1.out (fun b hb hlt => HON.out.block b hlt (own_neT O1.out HR.out (by decide) b hb)))
  have O2 := Lib.hid (recs_keep O2.out (fun b hb hlt => HON.out.block b hlt (own_neT O2.out HR.out (by decide) b hb)))
  have O3 := Lib.hid (recs_keep O3.out (fun b hb hlt => HON.out.block b hlt (own_neT O3.out HR.out (by decide) b hb)))
  have HB := Lib.hid (Only.below HB.out (Nat.le_refl _) HB.out.size HON.out)
  have HR := HR2
  clear HON HR2
  have hc := fun j => cell_of_row _ w.heap.size j _ _ _ HR.out
  have kf := fun j => frozen_of_row _ w.heap.size j _ _ HR.out
  clear hc kf
  obtain ⟨f1, f2⟩ := row_loT 11 HR.out rfl rfl
  have th := there_rowT (n := 11) HZ.out rfl
  have h1n : ([.int .u64 t.num, .string t.loc, .int .i64 t.iss, .slice q1 t.cs.length z1, .slice q2 t.ts.length z2, .int .u64 t.prev, .int .u64 t.org, .int .u64 t.fst, .int .i64 t.vou, .int .i64 t.posts, .slice q3 t.hs.length z3] : List Value).length = 11 := rfl
  have h1c : ([.int .u64 t.num, .string t.loc, .int .i64 t.iss, .slice q1 t.cs.length z1, .slice q2 t.ts.length z2, .int .u64 t.prev, .int .u64 t.org, .int .u64 t.fst, .int .i64 t.vou, .int .i64 t.posts, .slice q3 t.hs.length z3] : List Value).all (·.oneCell') = true := rfl
  go_wp2
  have hr6 := setCells_rowT (g := w.heap.size + 1) (cs := [.int .u64 t.num, .string t.loc, .int .i64 t.iss, .slice q1 t.cs.length z1, .slice q2 t.ts.length z2, .int .u64 t.prev, .int .u64 t.org, .int .u64 t.fst, .int .i64 t.vou, .int .i64 t.posts, .slice q3 t.hs.length z3]) HZ.out rfl
  have hon6 := (Only.refl (w.heap.size + 1) wb).setCells 0 ([.int .u64 t.num, .string t.loc, .int .i64 t.iss, .slice q1 t.cs.length z1, .slice q2 t.ts.length z2, .int .u64 t.prev, .int .u64 t.org, .int .u64 t.fst, .int .i64 t.vou, .int .i64 t.posts, .slice q3 t.hs.length z3])
  generalize wb.setCells (w.heap.size + 1) 0 ([.int .u64 t.num, .string t.loc, .int .i64 t.iss, .slice q1 t.cs.length z1, .slice q2 t.ts.length z2, .int .u64 t.prev, .int .u64 t.org, .int .u64 t.fst, .int .i64 t.vou, .int .i64 t.posts, .slice q3 t.hs.length z3]) = w6 at *
  (try simp only [Exit.inBlock, Exit.then])
  refine bodyPost_ret (results_cellT rfl _ _ (w.heap.size + 1) rfl (loadTk hr6 rfl)) rfl ?_
  have keep : ∀ {β : Type} {en : β → List Value} {nn m : Nat} {e : TypeId} {v : Value} {l : List β}, e ≠ 27 → wb.ownsRow w.heap.size e nn v m (encL en l) → w6.ownsRow w.heap.size e nn v m (encL en l) := fun hne ho => recs_keep ho (fun b hb hlt => hon6.block b hlt (own_neT ho HZ.out hne b hb))
  exact ⟨⟨q1, _, z1⟩, ⟨q2, _, z2⟩, ⟨q3, _, z3⟩, rfl, keep (by decide) O1.out, keep (by decide) O2.out, keep (by decide) O3.out, Only.below HB.out (by omega) HB.out.size hon6⟩
end Go.Proofs.Ytmadkfahkbdibaa
