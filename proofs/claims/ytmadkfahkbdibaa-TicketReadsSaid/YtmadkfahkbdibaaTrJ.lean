/- Contracts: the reference's Last and Change (13). -/
import Derived.Test.YtmadkfahkbdibaaTrI
import Derived.Test.YtmadkfahkbdibaaTrD
set_option linter.unusedVariables false
set_option linter.unusedSimpArgs false
namespace Go.Proofs.Ytmadkfahkbdibaa
open Go.RowKit

attribute [local go_sem ↓] Tk_execLoad Tk_execStore Cp_execLoad Cp_execStore
attribute [local go_sem] Tk_load Tk_store Cp_load Cp_store loL_drew okL_drew there_sc World.there_drew
theorem putRec {W : World} {e : TypeId} {zs cs : List Value} (h : zs.length = cs.length) : ((W.alloc (.cells zs.toArray e (0, 0))).setCells W.heap.size 0 cs).heap[W.heap.size]? = some (.cells cs.toArray e (0, 0)) ∧ Below W.heap.size W ((W.alloc (.cells zs.toArray e (0, 0))).setCells W.heap.size 0 cs) :=
  ⟨setCells_rowT (new_rowW _ _ _ rfl) h, Only.below ((Below.refl _ _).alloc (Nat.le_refl _) _) (Nat.le_refl _) (by simp) ((Only.refl W.heap.size _).setCells 0 _)⟩
theorem own_setRecT {w : World} {base e m b cap k : Nat} {l : List Cpn} {x x' : Cpn} (h : w.ownsRow base e 6 (.slice (some ⟨b, 0, none⟩) m cap) m (encL Cpn.cells (l.set k x))) (hk : k < l.length) :
    (w.setCells b (k * 6) x'.cells).ownsRow base e 6 (.slice (some ⟨b, 0, none⟩) m cap) m (encL Cpn.cells (l.set k x')) := by
  have h0 := own_updT Cpn.cells_length (j := 0) (u := .int .i64 x'.fl) (x' := ⟨x'.fl, x.dy, x.va, x.st, x.ho, x.nx⟩) h hk (by decide) rfl
  have h1 := own_updT Cpn.cells_length (j := 1) (u := .int .i64 x'.dy) (x' := ⟨x'.fl, x'.dy, x.va, x.st, x.ho, x.nx⟩) h0 hk (by decide) rfl
  have h2 := own_updT Cpn.cells_length (j := 2) (u := .int .i64 x'.va) (x' := ⟨x'.fl, x'.dy, x'.va, x.st, x.ho, x.nx⟩) h1 hk (by decide) rfl
  have h3 := own_updT Cpn.cells_length (j := 3) (u := .int .i64 x'.st) (x' := ⟨x'.fl, x'.dy, x'.va, x'.st, x.ho, x.nx⟩) h2 hk (by decide) rfl
  have h4 := own_updT Cpn.cells_length (j := 4) (u := .int .i64 x'.ho) (x' := ⟨x'.fl, x'.dy, x'.va, x'.st, x'.ho, x.nx⟩) h3 hk (by decide) rfl
  have h5 := own_updT Cpn.cells_length (j := 5) (u := .int .u64 x'.nx) (x' := x') h4 hk (by decide) rfl
  exact h5
theorem row_neT {w : World} {b g : Nat} {cs ds : Array Value} {e e' : TypeId} {fr fr' : Nat × Nat} (h : w.heap[b]? = some (.cells cs e fr)) (hg : w.heap[g]? = some (.cells ds e' fr')) (hne : e ≠ e') : b ≠ g := by
  intro hb
  subst hb
  rw [h] at hg
  injection hg with hg
  injection hg with h1 h2 h3
  exact hne h2
set_option maxHeartbeats 1000000 in
theorem rlast_any (t : Tk) (c x h : Sl) (w : World) (ts : TS w t c x h) : Calls Try.prog 37 #[.agg #[.int .u64 t.num, .string t.loc, .int .i64 t.iss, .slice c.p c.n c.c, .slice x.p x.n x.c, .int .u64 t.prev, .int .u64 t.org, .int .u64 t.fst, .int .i64 t.vou, .int .i64 t.posts, .slice h.p h.n h.c]] w fun e w' => e = .returned (.int .i64 (Tkt.lastD t)) ∧ Below w.heap.size w w' := by
  obtain ⟨ph, nh, ch⟩ := h
  simp only at *
  have HTS := Lib.hid ts
  have HNH := Lib.hid ts.hs.length
  have HB := Lib.hid ((Below.refl w.heap.size w).alloc (Nat.le_refl _) (.cells #[.int .u64 t.num, .string t.loc, .int .i64 t.iss, .slice c.p c.n c.c, .slice x.p x.n x.c, .int .u64 t.prev, .int .u64 t.org, .int .u64 t.fst, .int .i64 t.vou, .int .i64 t.posts, .slice ph nh ch] 27 (0, 0)))
  have hc := fun j => cell_of_row _ w.heap.size j _ _ _ (new_rowW w (.cells #[.int .u64 t.num, .string t.loc, .int .i64 t.iss, .slice c.p c.n c.c, .slice x.p x.n x.c, .int .u64 t.prev, .int .u64 t.org, .int .u64 t.fst, .int .i64 t.vou, .int .i64 t.posts, .slice ph nh ch] 27 (0, 0)) _ rfl)
  have hm2 := HNH.out.2.1
  have hm3 := HNH.out.2.2
  unfold maxLen at hm3
  simp only at hm2 hm3
  clear ts
  by_cases hh : nh = 0
  · subst hh
    have hl : t.iss = Tkt.lastD t := by rw [Tkt.lastD, List.length_eq_zero_iff.1 (HNH.out.1.symm)]; rfl
    have HL := Lib.hid hl
    clear hl
    go_enter Try.func37, Try.ntmps37
    go_wp2_with fail
    go_ret
    exact ⟨ret_int HL.out, HB.out⟩
  · obtain ⟨m, rfl⟩ : ∃ m, nh = m + 1 := ⟨nh - 1, by omega⟩
    have hml : t.hs.length = m + 1 := HNH.out.1.symm
    obtain ⟨z, hz⟩ : ∃ z, t.hs[m]? = some z := ⟨_, List.getElem?_eq_getElem (by omega)⟩
    have hl : z.dy = Tkt.lastD t := by rw [Tkt.lastD, List.getLast?_eq_getElem?, hml, Nat.add_sub_cancel, hz]
    have HLL := Lib.hid hl
    obtain ⟨bb, o, hp, hbl, hr⟩ := (HTS.out.hs).at hz
    subst hp
    have c0 : w.cell? ⟨bb, o + m * 4, none⟩ = some (.int .i64 z.dy) := hr 0 _ rfl
    have hwr : IntKind.i64.wrap (((m + 1 : Nat) : Int) - 1) = m := by rw [IntKind.wrap_i64]; omega
    have hwr2 : IntKind.i64.wrap ((m : Int) + 1 - 1) = m := by rw [IntKind.wrap_i64]; omega
    have hnz : (((m + 1 : Nat) : Int) == 0) = false := beq_eq_false_iff_ne.2 (by omega)
    have hnz2 : (((m : Int) + 1) == 0) = false := beq_eq_false_iff_ne.2 (by omega)
    clear hr hz hl hml hh
    go_enter Try.func37, Try.ntmps37
    go_wp2_with fail
    go_ret
    exact ⟨ret_int HLL.out, HB.out⟩

set_option maxRecDepth 40000 in
set_option maxHeartbeats 8000000 in
theorem rchange_any (t : Tk) (c x h : Sl) (co on tq wi : Int) (hco : I64 co) (hon : I64 on) (hwi : U64 wi) (w : World) (ts : TS w t c x h) : Calls Try.prog 15 #[.agg #[.int .u64 t.num, .string t.loc, .int .i64 t.iss, .slice c.p c.n c.c, .slice x.p x.n x.c, .int .u64 t.prev, .int .u64 t.org, .int .u64 t.fst, .int .i64 t.vou, .int .i64 t.posts, .slice h.p h.n h.c], .int .i64 co, .int .i64 on, .int .i64 tq, .int .u64 wi] w fun e w' => ∃ c' x' h' : Sl, e = .returned (.tuple #[.agg #[.int .u64 (Tkt.chgT t co on tq wi).num, .string (Tkt.chgT t co on tq wi).loc, .int .i64 (Tkt.chgT t co on tq wi).iss, .slice c'.p c'.n c'.c, .slice x'.p x'.n x'.c, .int .u64 (Tkt.chgT t co on tq wi).prev, .int .u64 (Tkt.chgT t co on tq wi).org, .int .u64 (Tkt.chgT t co on tq wi).fst, .int .i64 (Tkt.chgT t co on tq wi).vou, .int .i64 (Tkt.chgT t co on tq wi).posts, .slice h'.p h'.n h'.c], .int .i64 (Tkt.errC t co on tq wi)]) ∧ w'.ownsRow w.heap.size 44 6 (.slice c'.p c'.n c'.c) (Tkt.chgT t co on tq wi).cs.length (encL Cpn.cells (Tkt.chgT t co on tq wi).cs) ∧ w'.ownsRow w.heap.size 48 2 (.slice x'.p x'.n x'.c) (Tkt.chgT t co on tq wi).ts.length (encL Txx.cells (Tkt.chgT t co on tq wi).ts) ∧ w'.ownsRow w.heap.size 46 4 (.slice h'.p h'.n h'.c) (Tkt.chgT t co on tq wi).hs.length (encL Evt.cells (Tkt.chgT t co on tq wi).hs) ∧ Below w.heap.size w w' := by
  obtain ⟨ph, nh, ch⟩ := h
  simp only at *
  have HTS := Lib.hid ts
  have HB := Lib.hid (((Below.refl w.heap.size w).alloc (Nat.le_refl _) (.cells #[.int .u64 t.num, .string t.loc, .int .i64 t.iss, .slice c.p c.n c.c, .slice x.p x.n x.c, .int .u64 t.prev, .int .u64 t.org, .int .u64 t.fst, .int .i64 t.vou, .int .i64 t.posts, .slice ph nh ch] 27 (0, 0))).alloc (by simp) (.cells #[.int .u64 0, .string ⟨#[]⟩, .int .i64 0, .slice none 0 0, .slice none 0 0, .int .u64 0, .int .u64 0, .int .u64 0, .int .i64 0, .int .i64 0, .slice none 0 0] 27 (0, 0)))
  have HR : Hid (((w.alloc (.cells #[.int .u64 t.num, .string t.loc, .int .i64 t.iss, .slice c.p c.n c.c, .slice x.p x.n x.c, .int .u64 t.prev, .int .u64 t.org, .int .u64 t.fst, .int .i64 t.vou, .int .i64 t.posts, .slice ph nh ch] 27 (0, 0))).alloc (.cells #[.int .u64 0, .string ⟨#[]⟩, .int .i64 0, .slice none 0 0, .slice none 0 0, .int .u64 0, .int .u64 0, .int .u64 0, .int .i64 0, .int .i64 0, .slice none 0 0] 27 (0, 0))).heap[w.heap.size]? = some (.cells #[.int .u64 t.num, .string t.loc, .int .i64 t.iss, .slice c.p c.n c.c, .slice x.p x.n x.c, .int .u64 t.prev, .int .u64 t.org, .int .u64 t.fst, .int .i64 t.vou, .int .i64 t.posts, .slice ph nh ch] 27 (0, 0))) := Lib.hid (row_after (new_rowW _ _ _ rfl))
  have HZ : Hid (((w.alloc (.cells #[.int .u64 t.num, .string t.loc, .int .i64 t.iss, .slice c.p c.n c.c, .slice x.p x.n x.c, .int .u64 t.prev, .int .u64 t.org, .int .u64 t.fst, .int .i64 t.vou, .int .i64 t.posts, .slice ph nh ch] 27 (0, 0))).alloc (.cells #[.int .u64 0, .string ⟨#[]⟩, .int .i64 0, .slice none 0 0, .slice none 0 0, .int .u64 0, .int .u64 0, .int .u64 0, .int .i64 0, .int .i64 0, .slice none 0 0] 27 (0, 0))).heap[w.heap.size + 1]? = some (.cells #[.int .u64 0, .string ⟨#[]⟩, .int .i64 0, .slice none 0 0, .slice none 0 0, .int .u64 0, .int .u64 0, .int .u64 0, .int .i64 0, .int .i64 0, .slice none 0 0] 27 (0, 0))) := Lib.hid (new_rowW _ _ _ (by simp))
  have hc := fun j => cell_of_row _ w.heap.size j _ _ _ HR.out
  obtain ⟨f1, f2⟩ := row_loT 11 HR.out rfl rfl
  have th := there_rowT (n := 11) HZ.out rfl
  have h1n : ([.int .u64 0, .string ⟨#[]⟩, .int .i64 0, .slice none 0 0, .slice none 0 0, .int .u64 0, .int .u64 0, .int .u64 0, .int .i64 0, .int .i64 0, .slice none 0 0] : List Value).length = 11 := rfl
  have h1c : ([.int .u64 0, .string ⟨#[]⟩, .int .i64 0, .slice none 0 0, .slice none 0 0, .int .u64 0, .int .u64 0, .int .u64 0, .int .i64 0, .int .i64 0, .slice none 0 0] : List Value).all (·.oneCell') = true := rfl
  have HM := Lib.hid (fun W hW => rmay_any t c x ⟨ph, nh, ch⟩ W (ts.below hW))
  have HMW := Lib.hid (fun W => rmayWith_any t.num tq wi ts.wf.num hwi W)
  have HCL := Lib.hid (fun W hW => rcopy_any t c x ⟨ph, nh, ch⟩ W (ts.below hW))
  have HLA := Lib.hid (fun W hW => rlast_any t c x ⟨ph, nh, ch⟩ W (ts.below hW))
  have HN3 : Hid (c.n = t.cs.length) := Lib.hid ts.cs.length.1
  have HNH : Hid (nh = t.hs.length) := Lib.hid ts.hs.length.1
  have hn2 := ts.cs.length.2
  unfold maxLen at hn2
  have hn4 := ts.hs.length.2
  unfold maxLen at hn4
  simp only at hn4
  obtain ⟨t', ht'⟩ : ∃ t', Tkt.chgT t co on tq wi = t' := ⟨_, rfl⟩
  obtain ⟨er, her⟩ : ∃ er, Tkt.errC t co on tq wi = er := ⟨_, rfl⟩
  rw [ht', her]
  have HER := Lib.hid her
  have HBAD : Hid (er ≠ 0 → Tkt.zTk = t') := Lib.hid (fun hne => by rw [← ht', Tkt.chgT, her, if_neg hne])
  have HGOOD : Hid (er = 0 → Tkt.chg t co on tq wi = t') := Lib.hid (fun hne => by rw [← ht', Tkt.chgT, her, if_pos hne])
  obtain ⟨fits, hfits⟩ : ∃ f, Tkt.withB t.num tq wi = f := ⟨_, rfl⟩
  have HFI := Lib.hid hfits
  obtain ⟨mb, hmb⟩ : ∃ m, Tkt.mayB t = m := ⟨_, rfl⟩
  have HMB := Lib.hid hmb
  rw [hfits] at HMW
  rw [hmb] at HM
  obtain ⟨hco1, hco2⟩ := hco
  clear ht' her hfits hmb ts
  go_enter Try.func15, Try.ntmps15
  by_cases hok : mb = true ∧ 1 ≤ co ∧ co ≤ c.n ∧ fits = true
  · obtain ⟨rfl, hk1, hk2, rfl⟩ := hok
    go_upto_region 3 with (first | (go_at_call 18; refine (HM.out _ HB.out).mono ?_; rintro e wn ⟨rfl, hbn⟩; have HB := Lib.hid (HB.out.trans (hbn.mono HB.out.size)); have HR := Lib.hid ((hbn.block _ (block_lt HR.out)).trans HR.out); have HZ := Lib.hid ((hbn.block _ (block_lt HZ.out)).trans HZ.out); have hc := fun j => cell_of_row _ w.heap.size j _ _ _ HR.out; obtain ⟨f1, f2⟩ := row_loT 11 HR.out rfl rfl; have th := there_rowT (n := 11) HZ.out rfl; clear hbn) | (go_at_call 53; refine (HMW.out _).mono ?_; rintro e wn ⟨rfl, hbn⟩; have HB := Lib.hid (HB.out.trans (hbn.mono HB.out.size)); have HR := Lib.hid ((hbn.block _ (block_lt HR.out)).trans HR.out); have HZ := Lib.hid ((hbn.block _ (block_lt HZ.out)).trans HZ.out); have hc := fun j => cell_of_row _ w.heap.size j _ _ _ HR.out; obtain ⟨f1, f2⟩ := row_loT 11 HR.out rfl rfl; have th := there_rowT (n := 11) HZ.out rfl; clear hbn))
    have hmay := Tkt.mayB_lens HMB.out
    obtain ⟨k, rfl⟩ : ∃ k : Nat, co = (k : Int) + 1 := ⟨(co - 1).toNat, by omega⟩
    have hkn : k < t.cs.length := by have := HN3.out; omega
    obtain ⟨y, hy⟩ : ∃ y, t.cs[k]? = some y := ⟨_, List.getElem?_eq_getElem hkn⟩
    have HY := Lib.hid hy
    have HMAY := Lib.hid hmay
    clear hy hmay
    go_wp2_with fail
    refine (HCL.out _ HB.out (by have := HMAY.out; omega) (by have := HMAY.out; omega) (by have := HMAY.out; omega)).mono ?_
    rintro e wm ⟨⟨q1, n1, z1⟩, ⟨q2, n2, z2⟩, ⟨q3, n3, z3⟩, rfl, hw1, hw2, hw3, hbm⟩
    dsimp only at hw1 hw2 hw3
    obtain ⟨cb, ccap, hv1⟩ := own_someT hw1 (by omega)
    obtain ⟨qq2, zz2, hv2⟩ := rec_formT hw2
    obtain ⟨qq3, zz3, hv3⟩ := rec_formT hw3
    injection hv1 with e1 e2 e3; injection hv2 with e4 e5 e6; injection hv3 with e7 e8 e9
    subst e1 e2 e3 e4 e5 e6 e7 e8 e9
    have O1 := Lib.hid (own_monoT hw1 HB.out.size); have O2 := Lib.hid (own_monoT hw2 HB.out.size); have O3 := Lib.hid (own_monoT hw3 HB.out.size)
    have HB := Lib.hid (HB.out.trans (hbm.mono HB.out.size)); have HR := Lib.hid ((hbm.block _ (block_lt HR.out)).trans HR.out); have HZ := Lib.hid ((hbm.block _ (block_lt HZ.out)).trans HZ.out); have hc := fun j => cell_of_row _ w.heap.size j _ _ _ HR.out; obtain ⟨f1, f2⟩ := row_loT 11 HR.out rfl rfl; have th := there_rowT (n := 11) HZ.out rfl; clear hbm
    have tn := there_newT (w := wm) (zs := [.int .u64 0, .string ⟨#[]⟩, .int .i64 0, .slice none 0 0, .slice none 0 0, .int .u64 0, .int .u64 0, .int .u64 0, .int .i64 0, .int .i64 0, .slice none 0 0]) (e := 27) (n := 11) rfl; have h1n2 : ([.int .u64 t.num, .string t.loc, .int .i64 t.iss, .slice (some ⟨cb, 0, none⟩) t.cs.length z1, .slice q2 t.ts.length z2, .int .u64 t.prev, .int .u64 t.org, .int .u64 t.fst, .int .i64 t.vou, .int .i64 t.posts, .slice q3 t.hs.length z3] : List Value).length = 11 := rfl; have h1c2 : ([.int .u64 t.num, .string t.loc, .int .i64 t.iss, .slice (some ⟨cb, 0, none⟩) t.cs.length z1, .slice q2 t.ts.length z2, .int .u64 t.prev, .int .u64 t.org, .int .u64 t.fst, .int .i64 t.vou, .int .i64 t.posts, .slice q3 t.hs.length z3] : List Value).all (·.oneCell') = true := rfl; clear hw1 hw2 hw3 f1 f2 th hc
    have HZL := Lib.hid (block_lt HZ.out)
    go_upto_region 4 with fail
    have HP := Lib.hid (putTk (W := wm) (cs := [.int .u64 t.num, .string t.loc, .int .i64 t.iss, .slice (some ⟨cb, 0, none⟩) t.cs.length z1, .slice q2 t.ts.length z2, .int .u64 t.prev, .int .u64 t.org, .int .u64 t.fst, .int .i64 t.vou, .int .i64 t.posts, .slice q3 t.hs.length z3]) rfl)
    have HB := Lib.hid (HB.out.trans (HP.out.2.mono HB.out.size)); have HR := Lib.hid ((HP.out.2.block _ (block_lt HR.out)).trans HR.out); have HZ := Lib.hid ((HP.out.2.block _ (block_lt HZ.out)).trans HZ.out)
    have O1 := Lib.hid (recs_below O1.out HP.out.2); have O2 := Lib.hid (recs_below O2.out HP.out.2); have O3 := Lib.hid (recs_below O3.out HP.out.2)
    have HRO := Lib.hid HP.out.1
    have HGZ : Hid (wm.heap.size ≠ w.heap.size + 1) := Lib.hid (by have := HZL.out; omega)
    have HGW : Hid (w.heap.size ≤ wm.heap.size) := Lib.hid (by have := HZL.out; omega)
    clear HP tn h1n2 h1c2
    generalize (wm.alloc (.cells #[.int .u64 0, .string ⟨#[]⟩, .int .i64 0, .slice none 0 0, .slice none 0 0, .int .u64 0, .int .u64 0, .int .u64 0, .int .i64 0, .int .i64 0, .slice none 0 0] 27 (0, 0))).setCells wm.heap.size 0 [.int .u64 t.num, .string t.loc, .int .i64 t.iss, .slice (some ⟨cb, 0, none⟩) t.cs.length z1, .slice q2 t.ts.length z2, .int .u64 t.prev, .int .u64 t.org, .int .u64 t.fst, .int .i64 t.vou, .int .i64 t.posts, .slice q3 t.hs.length z3] = w3 at *
    generalize wm.heap.size = go at *
    have hcO := fun j => cell_of_row _ go j _ _ _ HRO.out
    have hr0 : w3.rangeAt cb (k * 6) y.cells := fun j v hj => by have := (own_cellT Cpn.cells_length O1.out HY.out (j := j) (by have := (List.getElem?_eq_some_iff.1 hj).1; rwa [Cpn.cells_length] at this)).1; rw [this]; exact hj
    obtain ⟨g1, g2⟩ := loL_of hr0 (Cpn.cells_length y)
    have g3 : y.cells = [.int .i64 y.fl, .int .i64 y.dy, .int .i64 y.va, .int .i64 y.st, .int .i64 y.ho, .int .u64 y.nx] := rfl
    rw [g3] at g1
    have hwr : IntKind.i64.wrap ((k : Int) + 1 - 1) = k := by rw [IntKind.wrap_i64]; omega
    clear hr0 g3
    have tc := there_newT (w := w3) (zs := [.int .i64 0, .int .i64 0, .int .i64 0, .int .i64 0, .int .i64 0, .int .u64 0]) (e := 44) (n := 6) rfl; have c6n : ([.int .i64 y.fl, .int .i64 y.dy, .int .i64 y.va, .int .i64 y.st, .int .i64 y.ho, .int .u64 y.nx] : List Value).length = 6 := rfl; have c6c : ([.int .i64 y.fl, .int .i64 y.dy, .int .i64 y.va, .int .i64 y.st, .int .i64 y.ho, .int .u64 y.nx] : List Value).all (·.oneCell') = true := rfl
    go_upto_region 5 with fail
    have HCG := Lib.hid (recs_base O1.out rfl).2; have HGC0 := Lib.hid (block_lt HRO.out)
    have HP := Lib.hid (putRec (W := w3) (e := 44) (zs := [.int .i64 0, .int .i64 0, .int .i64 0, .int .i64 0, .int .i64 0, .int .u64 0]) (cs := [.int .i64 y.fl, .int .i64 y.dy, .int .i64 y.va, .int .i64 y.st, .int .i64 y.ho, .int .u64 y.nx]) rfl)
    have HB := Lib.hid (HB.out.trans (HP.out.2.mono HB.out.size)); have HR := Lib.hid ((HP.out.2.block _ (block_lt HR.out)).trans HR.out); have HZ := Lib.hid ((HP.out.2.block _ (block_lt HZ.out)).trans HZ.out); have HRO := Lib.hid ((HP.out.2.block _ (block_lt HRO.out)).trans HRO.out)
    have O1 := Lib.hid (recs_below O1.out HP.out.2); have O2 := Lib.hid (recs_below O2.out HP.out.2); have O3 := Lib.hid (recs_below O3.out HP.out.2)
    have HRC := Lib.hid HP.out.1
    have HGE1 := Lib.hid (block_lt HRO.out)
    clear HP tc c6n c6c g1 g2 hcO
    generalize (w3.alloc (.cells #[.int .i64 0, .int .i64 0, .int .i64 0, .int .i64 0, .int .i64 0, .int .u64 0] 44 (0, 0))).setCells w3.heap.size 0 [.int .i64 y.fl, .int .i64 y.dy, .int .i64 y.va, .int .i64 y.st, .int .i64 y.ho, .int .u64 y.nx] = w4 at *
    generalize w3.heap.size = gc at *
    have hcc := fun j => cell_of_row w4 gc j _ _ _ HRC.out
    have HEO := Lib.hid (Tkt.errC_ok (on := on) HMB.out HY.out HFI.out)
    rw [HER.out] at HEO
    have HLD := Lib.hid (fun W => leads12_any y.st tq W)
    obtain ⟨ld, hld⟩ : ∃ l, Tkt.lastD t = l := ⟨_, rfl⟩
    rw [hld] at HEO
    rw [hld] at HLA
    clear hld
    obtain ⟨f1, f2⟩ := row_loT 11 HR.out rfl rfl
    have hc := fun j => cell_of_row w4 w.heap.size j _ _ _ HR.out
    have th := there_rowT (n := 11) HZ.out rfl
    by_cases hl : Tkt.leadsB y.st tq = true
    · rw [hl] at HLD
      rw [if_pos hl] at HEO
      clear hl
      by_cases hd : ld ≤ on ∧ on ≤ 1000000
      · rw [if_pos hd] at HEO
        have hd1b : decide (on < ld) = false := decide_eq_false (by omega)
        have hd2b : decide (1000000 < on) = false := decide_eq_false (by omega)
        clear hd
        by_cases h60 : nh = 60
        · rw [if_pos (by rw [← HNH.out]; exact h60)] at HEO
          obtain rfl := HEO.out
          have h60b : ((nh : Int) == 60) = true := by rw [h60]; rfl
          have h60i : (nh : Int) = 60 := by omega
          clear h60
          go_wp2_with (first | (go_at_call 54; refine (HLD.out _).mono ?_; rintro e wn ⟨rfl, hbn⟩; have HB := Lib.hid (HB.out.trans (hbn.mono HB.out.size)); have HR := Lib.hid ((hbn.block _ (block_lt HR.out)).trans HR.out); have HZ := Lib.hid ((hbn.block _ (block_lt HZ.out)).trans HZ.out); have HRO := Lib.hid ((hbn.block _ (block_lt HRO.out)).trans HRO.out); have HRC := Lib.hid ((hbn.block _ (block_lt HRC.out)).trans HRC.out); have O1 := Lib.hid (recs_below O1.out hbn); have O2 := Lib.hid (recs_below O2.out hbn); have O3 := Lib.hid (recs_below O3.out hbn); have hcc := fun j => cell_of_row _ gc j _ _ _ HRC.out; have hc := fun j => cell_of_row _ w.heap.size j _ _ _ HR.out; obtain ⟨f1, f2⟩ := row_loT 11 HR.out rfl rfl; have th := there_rowT (n := 11) HZ.out rfl; clear hbn) | (go_at_call 37; refine (HLA.out _ HB.out).mono ?_; rintro e wn ⟨rfl, hbn⟩; have HB := Lib.hid (HB.out.trans (hbn.mono HB.out.size)); have HR := Lib.hid ((hbn.block _ (block_lt HR.out)).trans HR.out); have HZ := Lib.hid ((hbn.block _ (block_lt HZ.out)).trans HZ.out); have HRO := Lib.hid ((hbn.block _ (block_lt HRO.out)).trans HRO.out); have HRC := Lib.hid ((hbn.block _ (block_lt HRC.out)).trans HRC.out); have O1 := Lib.hid (recs_below O1.out hbn); have O2 := Lib.hid (recs_below O2.out hbn); have O3 := Lib.hid (recs_below O3.out hbn); have hcc := fun j => cell_of_row _ gc j _ _ _ HRC.out; have hc := fun j => cell_of_row _ w.heap.size j _ _ _ HR.out; obtain ⟨f1, f2⟩ := row_loT 11 HR.out rfl rfl; have th := there_rowT (n := 11) HZ.out rfl; clear hbn))
          (try simp only [Exit.inBlock, Exit.then])
          have hr6 := setCells_rowT (g := w.heap.size + 1) (cs := [.int .u64 0, .string ⟨#[]⟩, .int .i64 0, .slice none 0 0, .slice none 0 0, .int .u64 0, .int .u64 0, .int .u64 0, .int .i64 0, .int .i64 0, .slice none 0 0]) HZ.out rfl
          refine bodyPost_ret (results_cellT2 rfl _ _ (w.heap.size + 1) rfl (loadTk hr6 rfl)) rfl ?_
          obtain rfl := HBAD.out (by decide)
          exact ⟨⟨none, 0, 0⟩, ⟨none, 0, 0⟩, ⟨none, 0, 0⟩, rfl, World.ownsRow_nil _ _ _ _, World.ownsRow_nil _ _ _ _, World.ownsRow_nil _ _ _ _, Only.below HB.out (by omega) HB.out.size ((Only.refl (w.heap.size + 1) _).setCells 0 _)⟩
        · rw [if_neg (by rw [← HNH.out]; exact h60)] at HEO
          obtain rfl := HEO.out
          have h60b : ((nh : Int) == 60) = false := beq_eq_false_iff_ne.2 (by omega)
          have h60i : ¬ ((nh : Int) = 60) := by omega
          clear h60
          go_upto_region 11 with (first | (go_at_call 54; refine (HLD.out _).mono ?_; rintro e wn ⟨rfl, hbn⟩; have HB := Lib.hid (HB.out.trans (hbn.mono HB.out.size)); have HR := Lib.hid ((hbn.block _ (block_lt HR.out)).trans HR.out); have HZ := Lib.hid ((hbn.block _ (block_lt HZ.out)).trans HZ.out); have HRO := Lib.hid ((hbn.block _ (block_lt HRO.out)).trans HRO.out); have HRC := Lib.hid ((hbn.block _ (block_lt HRC.out)).trans HRC.out); have O1 := Lib.hid (recs_below O1.out hbn); have O2 := Lib.hid (recs_below O2.out hbn); have O3 := Lib.hid (recs_below O3.out hbn); have hcc := fun j => cell_of_row _ gc j _ _ _ HRC.out; have hc := fun j => cell_of_row _ w.heap.size j _ _ _ HR.out; obtain ⟨f1, f2⟩ := row_loT 11 HR.out rfl rfl; have th := there_rowT (n := 11) HZ.out rfl; clear hbn) | (go_at_call 37; refine (HLA.out _ HB.out).mono ?_; rintro e wn ⟨rfl, hbn⟩; have HB := Lib.hid (HB.out.trans (hbn.mono HB.out.size)); have HR := Lib.hid ((hbn.block _ (block_lt HR.out)).trans HR.out); have HZ := Lib.hid ((hbn.block _ (block_lt HZ.out)).trans HZ.out); have HRO := Lib.hid ((hbn.block _ (block_lt HRO.out)).trans HRO.out); have HRC := Lib.hid ((hbn.block _ (block_lt HRC.out)).trans HRC.out); have O1 := Lib.hid (recs_below O1.out hbn); have O2 := Lib.hid (recs_below O2.out hbn); have O3 := Lib.hid (recs_below O3.out hbn); have hcc := fun j => cell_of_row _ gc j _ _ _ HRC.out; have hc := fun j => cell_of_row _ w.heap.size j _ _ _ HR.out; obtain ⟨f1, f2⟩ := row_loT 11 HR.out rfl rfl; have th := there_rowT (n := 11) HZ.out rfl; clear hbn))
          clear h60b h60i hd1b hd2b hc hcc f1 f2 th
          have hcO := fun j => cell_of_row wn go j _ _ _ HRO.out
          have hcc := fun j => cell_of_row wn gc j _ _ _ HRC.out
          clear hk1 hk2 hkn hwr hn2 hn4 hco1 hco2 h1n h1c
          have q1_ : t.hs.length + 1 ≤ 1073741824 := by have := HMAY.out; omega
          have HQ1 := Lib.hid q1_
          have q2_ := recs_below O3.out ((Below.refl _ _).alloc (Nat.le_refl _) (.cells #[.int .i64 on, .int .i64 ((k : Int) + 1), .int .i64 y.st, .int .i64 tq] 46 (0, 0)))
          have HQ2 := Lib.hid q2_
          have q3_ := row_one (enc := Evt.cells) (x := (⟨on, (k : Int) + 1, y.st, tq⟩ : Evt)) (new_rowW wn (.cells #[.int .i64 on, .int .i64 ((k : Int) + 1), .int .i64 y.st, .int .i64 tq] 46 (0, 0)) _ rfl) rfl Evt.cells_length (by decide)
          have HQ3 := Lib.hid q3_
          clear q1_ q2_ q3_
          have HSZ : Hid (w.heap.size ≤ (wn.alloc (.cells #[.int .i64 on, .int .i64 ((k : Int) + 1), .int .i64 y.st, .int .i64 tq] 46 (0, 0))).heap.size) := Lib.hid (by have := HB.out.size; simp; omega)
          have HZA := Lib.hid (row_after (o' := (.cells #[.int .i64 on, .int .i64 ((k : Int) + 1), .int .i64 y.st, .int .i64 tq] 46 (0, 0))) HZ.out); have HROA := Lib.hid (row_after (o' := (.cells #[.int .i64 on, .int .i64 ((k : Int) + 1), .int .i64 y.st, .int .i64 tq] 46 (0, 0))) HRO.out); have HRCA := Lib.hid (row_after (o' := (.cells #[.int .i64 on, .int .i64 ((k : Int) + 1), .int .i64 y.st, .int .i64 tq] 46 (0, 0))) HRC.out)
          have O1A := Lib.hid (recs_below O1.out ((Below.refl _ _).alloc (Nat.le_refl _) (.cells #[.int .i64 on, .int .i64 ((k : Int) + 1), .int .i64 y.st, .int .i64 tq] 46 (0, 0)))); have O2A := Lib.hid (recs_below O2.out ((Below.refl _ _).alloc (Nat.le_refl _) (.cells #[.int .i64 on, .int .i64 ((k : Int) + 1), .int .i64 y.st, .int .i64 tq] 46 (0, 0)))); have HBA := Lib.hid (HB.out.alloc HB.out.size (.cells #[.int .i64 on, .int .i64 ((k : Int) + 1), .int .i64 y.st, .int .i64 tq] 46 (0, 0)))
          go_upto_region 12 with (at_builtin; refine wpList_append_recs elemEv rfl _ _ rfl w.heap.size _ t.hs.length t.hs rfl HQ2.out _ [⟨on, (k : Int) + 1, y.st, tq⟩] rfl HQ3.out HQ1.out HSZ.out ?_; intro v5 w5 hown hg hnn hat; rw [show t.hs.length + [(⟨on, (k : Int) + 1, y.st, tq⟩ : Evt)].length = t.hs.length + 1 from rfl] at hown; obtain ⟨q5, z5, rfl⟩ := rec_formT hown; have OH := Lib.hid hown; have HZ5 := Lib.hid ((hg.block _ (block_lt HZA.out) (fun e => own_neT HQ2.out HZA.out (by decide) _ e.symm rfl)).trans HZA.out); have HRO5 := Lib.hid ((hg.block _ (block_lt HROA.out) (fun e => own_neT HQ2.out HROA.out (by decide) _ e.symm rfl)).trans HROA.out); have HRC5 := Lib.hid ((hg.block _ (block_lt HRCA.out) (fun e => own_neT HQ2.out HRCA.out (by decide) _ e.symm rfl)).trans HRCA.out); have O15 := Lib.hid (own_apartT O1A.out HQ2.out hg (by decide)); have O25 := Lib.hid (own_apartT O2A.out HQ2.out hg (by decide)); have HB5 := Lib.hid (HBA.out.grown hg HSZ.out (fun b hb => (recs_base HQ2.out hb).1)); have kO := fun j => cell_of_row w5 go j _ _ _ HRO5.out; have kfO := fun j => frozen_of_row w5 go j _ _ HRO5.out; clear hown hg hnn hat)
          have HRO6 : Hid ((w5.setCell ⟨go, 10, none⟩ (.slice q5 (t.hs.length + 1) z5)).heap[go]? = some (.cells #[.int .u64 t.num, .string t.loc, .int .i64 t.iss, .slice (some ⟨cb, 0, none⟩) t.cs.length z1, .slice q2 t.ts.length z2, .int .u64 t.prev, .int .u64 t.org, .int .u64 t.fst, .int .i64 t.vou, .int .i64 t.posts, .slice q5 (t.hs.length + 1) z5] 27 (0, 0))) := Lib.hid (heap_setCell_same _ _ 10 _ _ (.slice q5 (t.hs.length + 1) z5) HRO5.out)
          have HON := Lib.hid ((Only.refl go w5).setCell 10 (.slice q5 (t.hs.length + 1) z5))
          clear kO kfO hcO hcc
          generalize w5.setCell ⟨go, 10, none⟩ (.slice q5 (t.hs.length + 1) z5) = w6 at *
          have HZF := Lib.hid ((HON.out.block _ (block_lt HZ5.out) (Ne.symm HGZ.out)).trans HZ5.out)
          have HRC6 := Lib.hid ((HON.out.block _ (block_lt HRC5.out) (fun e => row_neT HRC5.out HRO5.out (by decide) e)).trans HRC5.out)
          have O16 := Lib.hid (recs_keep O15.out (fun b hb hlt => HON.out.block b hlt (own_neT O15.out HRO5.out (by decide) b hb)))
          have O26 := Lib.hid (recs_keep O25.out (fun b hb hlt => HON.out.block b hlt (own_neT O25.out HRO5.out (by decide) b hb)))
          have O36 := Lib.hid (recs_keep OH.out (fun b hb hlt => HON.out.block b hlt (own_neT OH.out HRO5.out (by decide) b hb)))
          have HB6 := Lib.hid (Only.below HB5.out HGW.out HB5.out.size HON.out)
          have k3 := fun j => cell_of_row w6 gc j _ _ _ HRC6.out
          have kf := fun j => frozen_of_row w6 gc j _ _ HRC6.out
          by_cases hq9 : tq = 9
          · subst hq9
            have hh : Tkt.holdB t.num wi = true := by have := HFI.out; rwa [Tkt.withB, if_pos rfl] at this
            have hwr2 : IntKind.i64.wrap wi = wi := by unfold Tkt.holdB at hh; simp at hh; rw [IntKind.wrap_i64]; omega
            clear hh
            go_upto_region 19 with fail
            have HRC7 : Hid (((((w6.setCell ⟨gc, 3, none⟩ (.int .i64 9)).setCell ⟨gc, 4, none⟩ (.int .i64 0)).setCell ⟨gc, 5, none⟩ (.int .u64 0)).setCell ⟨gc, 4, none⟩ (.int .i64 wi)).heap[gc]? = some (.cells #[.int .i64 y.fl, .int .i64 y.dy, .int .i64 y.va, .int .i64 9, .int .i64 wi, .int .u64 0] 44 (0, 0))) := Lib.hid (heap_setCell_same _ _ 4 _ _ (.int .i64 wi) (heap_setCell_same _ _ 5 _ _ (.int .u64 0) (heap_setCell_same _ _ 4 _ _ (.int .i64 0) (heap_setCell_same _ _ 3 _ _ (.int .i64 9) HRC6.out))))
            have HON7 := Lib.hid (((((Only.refl gc w6).setCell 3 (.int .i64 9)).setCell 4 (.int .i64 0)).setCell 5 (.int .u64 0)).setCell 4 (.int .i64 wi))
            clear k3 kf
            generalize ((((w6.setCell ⟨gc, 3, none⟩ (.int .i64 9)).setCell ⟨gc, 4, none⟩ (.int .i64 0)).setCell ⟨gc, 5, none⟩ (.int .u64 0)).setCell ⟨gc, 4, none⟩ (.int .i64 wi)) = w7 at *
            have HRO7 := Lib.hid ((HON7.out.block _ (block_lt HRO6.out) (fun e => row_neT HRO6.out HRC6.out (by decide) e)).trans HRO6.out)
            have HZ7 := Lib.hid ((HON7.out.block _ (block_lt HZF.out) (fun e => row_neT HZF.out HRC6.out (by decide) e)).trans HZF.out)
            have O17 := Lib.hid (recs_keep O16.out (fun b hb hlt => HON7.out.block b hlt (fun e => by injection hb with hb; simp only at hb; have h1 := HCG.out; omega)))
            have O27 := Lib.hid (recs_keep O26.out (fun b hb hlt => HON7.out.block b hlt (own_neT O26.out HRC6.out (by decide) b hb)))
            have O37 := Lib.hid (recs_keep O36.out (fun b hb hlt => HON7.out.block b hlt (own_neT O36.out HRC6.out (by decide) b hb)))
            have HB7 := Lib.hid (Only.below HB6.out (by have h1 := HGC0.out; have h2 := HGW.out; omega) HB6.out.size HON7.out)
            clear HON7 HRO6 HZF O16 O26 O36 HB6 HRC6
            have kO := fun j => cell_of_row w7 go j _ _ _ HRO7.out
            obtain ⟨g1, g2⟩ := row_loT 6 HRC7.out rfl rfl
            have hkn : k < t.cs.length := (List.getElem?_eq_some_iff.1 HY.out).1
            have hmx : t.cs.length ≤ 4 := HMAY.out.2.1
            have t6 := (RowOf.of_own O17.out).there (o := k * 6) (n := 6) (by have : (k + 1) * 6 ≤ t.cs.length * 6 := Nat.mul_le_mul_right 6 hkn; omega)
            have c6n : ([.int .i64 y.fl, .int .i64 y.dy, .int .i64 y.va, .int .i64 9, .int .i64 wi, .int .u64 0] : List Value).length = 6 := rfl; have c6c : ([.int .i64 y.fl, .int .i64 y.dy, .int .i64 y.va, .int .i64 9, .int .i64 wi, .int .u64 0] : List Value).all (·.oneCell') = true := rfl
            have hwr : IntKind.i64.wrap ((k : Int) + 1 - 1) = k := by rw [IntKind.wrap_i64]; omega
            go_upto_region 20 with fail
            have OU := Lib.hid (own_setRecT (x := y) (x' := (⟨y.fl, y.dy, y.va, 9, wi, 0⟩ : Cpn)) (l := t.cs) (by rw [list_set_same HY.out]; exact O17.out) hkn)
            have HON8 := Lib.hid ((Only.refl cb w7).setCells (k * 6) [.int .i64 y.fl, .int .i64 y.dy, .int .i64 y.va, .int .i64 9, .int .i64 wi, .int .u64 0])
            have hr1 := (own_rowT O17.out).choose_spec
            have HRO8 := Lib.hid ((HON8.out.block _ (block_lt HRO7.out) (fun e => row_neT HRO7.out hr1 (by decide) e)).trans HRO7.out)
            have HZ8 := Lib.hid ((HON8.out.block _ (block_lt HZ7.out) (fun e => row_neT HZ7.out hr1 (by decide) e)).trans HZ7.out)
            have O28 := Lib.hid (recs_keep O27.out (fun b hb hlt => HON8.out.block b hlt (own_neT O27.out hr1 (by decide) b hb)))
            have O38 := Lib.hid (recs_keep O37.out (fun b hb hlt => HON8.out.block b hlt (own_neT O37.out hr1 (by decide) b hb)))
            have HB8 := Lib.hid (Only.below HB7.out (recs_base O17.out rfl).1 HB7.out.size HON8.out)
            clear kO g1 g2 t6 c6n c6c hwr hr1 HON8 HRO7 HZ7 O17 O27 O37 HB7 HRC7 hkn hmx
            have OU2 : Hid (World.ownsRow (w7.setCells cb (k * 6) [.int .i64 y.fl, .int .i64 y.dy, .int .i64 y.va, .int .i64 9, .int .i64 wi, .int .u64 0]) w.heap.size 44 6 (.slice (some ⟨cb, 0, none⟩) t.cs.length z1) t.cs.length (encL Cpn.cells (t.cs.set k (⟨y.fl, y.dy, y.va, 9, wi, 0⟩ : Cpn)))) := OU
            clear OU
            generalize w7.setCells cb (k * 6) [.int .i64 y.fl, .int .i64 y.dy, .int .i64 y.va, .int .i64 9, .int .i64 wi, .int .u64 0] = w8 at *
            obtain ⟨f1, f2⟩ := row_loT 11 HRO8.out rfl rfl
            have th := there_rowT (n := 11) HZ8.out rfl
            have h1n3 : ([.int .u64 t.num, .string t.loc, .int .i64 t.iss, .slice (some ⟨cb, 0, none⟩) t.cs.length z1, .slice q2 t.ts.length z2, .int .u64 t.prev, .int .u64 t.org, .int .u64 t.fst, .int .i64 t.vou, .int .i64 t.posts, .slice q5 (t.hs.length + 1) z5] : List Value).length = 11 := rfl
            have h1c3 : ([.int .u64 t.num, .string t.loc, .int .i64 t.iss, .slice (some ⟨cb, 0, none⟩) t.cs.length z1, .slice q2 t.ts.length z2, .int .u64 t.prev, .int .u64 t.org, .int .u64 t.fst, .int .i64 t.vou, .int .i64 t.posts, .slice q5 (t.hs.length + 1) z5] : List Value).all (·.oneCell') = true := rfl
            go_wp2
            have hr8 := setCells_rowT (g := w.heap.size + 1) (cs := [.int .u64 t.num, .string t.loc, .int .i64 t.iss, .slice (some ⟨cb, 0, none⟩) t.cs.length z1, .slice q2 t.ts.length z2, .int .u64 t.prev, .int .u64 t.org, .int .u64 t.fst, .int .i64 t.vou, .int .i64 t.posts, .slice q5 (t.hs.length + 1) z5]) HZ8.out rfl
            have hon8 := (Only.refl (w.heap.size + 1) w8).setCells 0 ([.int .u64 t.num, .string t.loc, .int .i64 t.iss, .slice (some ⟨cb, 0, none⟩) t.cs.length z1, .slice q2 t.ts.length z2, .int .u64 t.prev, .int .u64 t.org, .int .u64 t.fst, .int .i64 t.vou, .int .i64 t.posts, .slice q5 (t.hs.length + 1) z5])
            generalize w8.setCells (w.heap.size + 1) 0 ([.int .u64 t.num, .string t.loc, .int .i64 t.iss, .slice (some ⟨cb, 0, none⟩) t.cs.length z1, .slice q2 t.ts.length z2, .int .u64 t.prev, .int .u64 t.org, .int .u64 t.fst, .int .i64 t.vou, .int .i64 t.posts, .slice q5 (t.hs.length + 1) z5]) = w9 at *
            (try simp only [Exit.inBlock, Exit.then])
            refine bodyPost_ret (results_cellT2 rfl _ _ (w.heap.size + 1) rfl (loadTk hr8 rfl)) rfl ?_
            have h9 := HGOOD.out (by first | rfl | trivial)
            rw [Tkt.chg_ok HY.out] at h9
            have keep : ∀ {β : Type} {en : β → List Value} {nn m : Nat} {e : TypeId} {v : Value} {l : List β}, e ≠ 27 → w8.ownsRow w.heap.size e nn v m (encL en l) → w9.ownsRow w.heap.size e nn v m (encL en l) := fun hne ho => recs_keep ho (fun b hb hlt => hon8.block b hlt (own_neT ho HZ8.out hne b hb))
            have hnl1 : (t.hs ++ [(⟨on, (k : Int) + 1, y.st, 9⟩ : Evt)]).length = t.hs.length + 1 := by rw [List.length_append]; rfl
            subst h9
            refine ⟨⟨some ⟨cb, 0, none⟩, t.cs.length, z1⟩, ⟨q2, t.ts.length, z2⟩, ⟨q5, t.hs.length + 1, z5⟩, rfl, ?_, keep (by decide) O28.out, ?_, Only.below HB8.out (by omega) HB8.out.size hon8⟩
            · rw [List.length_set]
              have := keep (by decide) OU2.out
              rwa [show (⟨y.fl, y.dy, y.va, 9, wi, 0⟩ : Cpn) = Tkt.chgC y 9 wi from rfl] at this
            · rw [hnl1]; exact keep (by decide) O38.out
          · by_cases hq5 : tq = 5
            · subst hq5
              go_upto_region 19 with fail
              have HRC7 : Hid (((((w6.setCell ⟨gc, 3, none⟩ (.int .i64 5)).setCell ⟨gc, 4, none⟩ (.int .i64 0)).setCell ⟨gc, 5, none⟩ (.int .u64 0)).setCell ⟨gc, 5, none⟩ (.int .u64 wi)).heap[gc]? = some (.cells #[.int .i64 y.fl, .int .i64 y.dy, .int .i64 y.va, .int .i64 5, .int .i64 0, .int .u64 wi] 44 (0, 0))) := Lib.hid (heap_setCell_same _ _ 5 _ _ (.int .u64 wi) (heap_setCell_same _ _ 5 _ _ (.int .u64 0) (heap_setCell_same _ _ 4 _ _ (.int .i64 0) (heap_setCell_same _ _ 3 _ _ (.int .i64 5) HRC6.out))))
              have HON7 := Lib.hid (((((Only.refl gc w6).setCell 3 (.int .i64 5)).setCell 4 (.int .i64 0)).setCell 5 (.int .u64 0)).setCell 5 (.int .u64 wi))
              clear k3 kf
              generalize ((((w6.setCell ⟨gc, 3, none⟩ (.int .i64 5)).setCell ⟨gc, 4, none⟩ (.int .i64 0)).setCell ⟨gc, 5, none⟩ (.int .u64 0)).setCell ⟨gc, 5, none⟩ (.int .u64 wi)) = w7 at *
              have HRO7 := Lib.hid ((HON7.out.block _ (block_lt HRO6.out) (fun e => row_neT HRO6.out HRC6.out (by decide) e)).trans HRO6.out)
              have HZ7 := Lib.hid ((HON7.out.block _ (block_lt HZF.out) (fun e => row_neT HZF.out HRC6.out (by decide) e)).trans HZF.out)
              have O17 := Lib.hid (recs_keep O16.out (fun b hb hlt => HON7.out.block b hlt (fun e => by injection hb with hb; simp only at hb; have h1 := HCG.out; omega)))
              have O27 := Lib.hid (recs_keep O26.out (fun b hb hlt => HON7.out.block b hlt (own_neT O26.out HRC6.out (by decide) b hb)))
              have O37 := Lib.hid (recs_keep O36.out (fun b hb hlt => HON7.out.block b hlt (own_neT O36.out HRC6.out (by decide) b hb)))
              have HB7 := Lib.hid (Only.below HB6.out (by have h1 := HGC0.out; have h2 := HGW.out; omega) HB6.out.size HON7.out)
              clear HON7 HRO6 HZF O16 O26 O36 HB6 HRC6
              have kO := fun j => cell_of_row w7 go j _ _ _ HRO7.out
              obtain ⟨g1, g2⟩ := row_loT 6 HRC7.out rfl rfl
              have hkn : k < t.cs.length := (List.getElem?_eq_some_iff.1 HY.out).1
              have hmx : t.cs.length ≤ 4 := HMAY.out.2.1
              have t6 := (RowOf.of_own O17.out).there (o := k * 6) (n := 6) (by have : (k + 1) * 6 ≤ t.cs.length * 6 := Nat.mul_le_mul_right 6 hkn; omega)
              have c6n : ([.int .i64 y.fl, .int .i64 y.dy, .int .i64 y.va, .int .i64 5, .int .i64 0, .int .u64 wi] : List Value).length = 6 := rfl; have c6c : ([.int .i64 y.fl, .int .i64 y.dy, .int .i64 y.va, .int .i64 5, .int .i64 0, .int .u64 wi] : List Value).all (·.oneCell') = true := rfl
              have hwr : IntKind.i64.wrap ((k : Int) + 1 - 1) = k := by rw [IntKind.wrap_i64]; omega
              go_upto_region 20 with fail
              have OU := Lib.hid (own_setRecT (x := y) (x' := (⟨y.fl, y.dy, y.va, 5, 0, wi⟩ : Cpn)) (l := t.cs) (by rw [list_set_same HY.out]; exact O17.out) hkn)
              have HON8 := Lib.hid ((Only.refl cb w7).setCells (k * 6) [.int .i64 y.fl, .int .i64 y.dy, .int .i64 y.va, .int .i64 5, .int .i64 0, .int .u64 wi])
              have hr1 := (own_rowT O17.out).choose_spec
              have HRO8 := Lib.hid ((HON8.out.block _ (block_lt HRO7.out) (fun e => row_neT HRO7.out hr1 (by decide) e)).trans HRO7.out)
              have HZ8 := Lib.hid ((HON8.out.block _ (block_lt HZ7.out) (fun e => row_neT HZ7.out hr1 (by decide) e)).trans HZ7.out)
              have O28 := Lib.hid (recs_keep O27.out (fun b hb hlt => HON8.out.block b hlt (own_neT O27.out hr1 (by decide) b hb)))
              have O38 := Lib.hid (recs_keep O37.out (fun b hb hlt => HON8.out.block b hlt (own_neT O37.out hr1 (by decide) b hb)))
              have HB8 := Lib.hid (Only.below HB7.out (recs_base O17.out rfl).1 HB7.out.size HON8.out)
              clear kO g1 g2 t6 c6n c6c hwr hr1 HON8 HRO7 HZ7 O17 O27 O37 HB7 HRC7 hkn hmx
              have OU2 : Hid (World.ownsRow (w7.setCells cb (k * 6) [.int .i64 y.fl, .int .i64 y.dy, .int .i64 y.va, .int .i64 5, .int .i64 0, .int .u64 wi]) w.heap.size 44 6 (.slice (some ⟨cb, 0, none⟩) t.cs.length z1) t.cs.length (encL Cpn.cells (t.cs.set k (⟨y.fl, y.dy, y.va, 5, 0, wi⟩ : Cpn)))) := OU
              clear OU
              generalize w7.setCells cb (k * 6) [.int .i64 y.fl, .int .i64 y.dy, .int .i64 y.va, .int .i64 5, .int .i64 0, .int .u64 wi] = w8 at *
              obtain ⟨f1, f2⟩ := row_loT 11 HRO8.out rfl rfl
              have th := there_rowT (n := 11) HZ8.out rfl
              have h1n3 : ([.int .u64 t.num, .string t.loc, .int .i64 t.iss, .slice (some ⟨cb, 0, none⟩) t.cs.length z1, .slice q2 t.ts.length z2, .int .u64 t.prev, .int .u64 t.org, .int .u64 t.fst, .int .i64 t.vou, .int .i64 t.posts, .slice q5 (t.hs.length + 1) z5] : List Value).length = 11 := rfl
              have h1c3 : ([.int .u64 t.num, .string t.loc, .int .i64 t.iss, .slice (some ⟨cb, 0, none⟩) t.cs.length z1, .slice q2 t.ts.length z2, .int .u64 t.prev, .int .u64 t.org, .int .u64 t.fst, .int .i64 t.vou, .int .i64 t.posts, .slice q5 (t.hs.length + 1) z5] : List Value).all (·.oneCell') = true := rfl
              go_wp2
              have hr8 := setCells_rowT (g := w.heap.size + 1) (cs := [.int .u64 t.num, .string t.loc, .int .i64 t.iss, .slice (some ⟨cb, 0, none⟩) t.cs.length z1, .slice q2 t.ts.length z2, .int .u64 t.prev, .int .u64 t.org, .int .u64 t.fst, .int .i64 t.vou, .int .i64 t.posts, .slice q5 (t.hs.length + 1) z5]) HZ8.out rfl
              have hon8 := (Only.refl (w.heap.size + 1) w8).setCells 0 ([.int .u64 t.num, .string t.loc, .int .i64 t.iss, .slice (some ⟨cb, 0, none⟩) t.cs.length z1, .slice q2 t.ts.length z2, .int .u64 t.prev, .int .u64 t.org, .int .u64 t.fst, .int .i64 t.vou, .int .i64 t.posts, .slice q5 (t.hs.length + 1) z5])
              generalize w8.setCells (w.heap.size + 1) 0 ([.int .u64 t.num, .string t.loc, .int .i64 t.iss, .slice (some ⟨cb, 0, none⟩) t.cs.length z1, .slice q2 t.ts.length z2, .int .u64 t.prev, .int .u64 t.org, .int .u64 t.fst, .int .i64 t.vou, .int .i64 t.posts, .slice q5 (t.hs.length + 1) z5]) = w9 at *
              (try simp only [Exit.inBlock, Exit.then])
              refine bodyPost_ret (results_cellT2 rfl _ _ (w.heap.size + 1) rfl (loadTk hr8 rfl)) rfl ?_
              have h9 := HGOOD.out (by first | rfl | trivial)
              rw [Tkt.chg_ok HY.out] at h9
              have keep : ∀ {β : Type} {en : β → List Value} {nn m : Nat} {e : TypeId} {v : Value} {l : List β}, e ≠ 27 → w8.ownsRow w.heap.size e nn v m (encL en l) → w9.ownsRow w.heap.size e nn v m (encL en l) := fun hne ho => recs_keep ho (fun b hb hlt => hon8.block b hlt (own_neT ho HZ8.out hne b hb))
              have hnl1 : (t.hs ++ [(⟨on, (k : Int) + 1, y.st, 5⟩ : Evt)]).length = t.hs.length + 1 := by rw [List.length_append]; rfl
              subst h9
              refine ⟨⟨some ⟨cb, 0, none⟩, t.cs.length, z1⟩, ⟨q2, t.ts.length, z2⟩, ⟨q5, t.hs.length + 1, z5⟩, rfl, ?_, keep (by decide) O28.out, ?_, Only.below HB8.out (by omega) HB8.out.size hon8⟩
              · rw [List.length_set]
                have := keep (by decide) OU2.out
                rwa [show (⟨y.fl, y.dy, y.va, 5, 0, wi⟩ : Cpn) = Tkt.chgC y 5 wi from rfl] at this
              · rw [hnl1]; exact keep (by decide) O38.out
            · have hcx : (⟨y.fl, y.dy, y.va, tq, 0, 0⟩ : Cpn) = Tkt.chgC y tq wi := by rw [Tkt.chgC, if_neg hq9, if_neg hq5]
              have HCX := Lib.hid hcx
              have hb9 : (tq == 9) = false := beq_eq_false_iff_ne.2 hq9
              have hb5 : (tq == 5) = false := beq_eq_false_iff_ne.2 hq5
              clear hcx hq9 hq5
              go_upto_region 19 with fail
              have HRC7 : Hid ((((w6.setCell ⟨gc, 3, none⟩ (.int .i64 tq)).setCell ⟨gc, 4, none⟩ (.int .i64 0)).setCell ⟨gc, 5, none⟩ (.int .u64 0)).heap[gc]? = some (.cells #[.int .i64 y.fl, .int .i64 y.dy, .int .i64 y.va, .int .i64 tq, .int .i64 0, .int .u64 0] 44 (0, 0))) := Lib.hid (heap_setCell_same _ _ 5 _ _ (.int .u64 0) (heap_setCell_same _ _ 4 _ _ (.int .i64 0) (heap_setCell_same _ _ 3 _ _ (.int .i64 tq) HRC6.out)))
              have HON7 := Lib.hid ((((Only.refl gc w6).setCell 3 (.int .i64 tq)).setCell 4 (.int .i64 0)).setCell 5 (.int .u64 0))
              clear k3 kf
              generalize (((w6.setCell ⟨gc, 3, none⟩ (.int .i64 tq)).setCell ⟨gc, 4, none⟩ (.int .i64 0)).setCell ⟨gc, 5, none⟩ (.int .u64 0)) = w7 at *
              have HRO7 := Lib.hid ((HON7.out.block _ (block_lt HRO6.out) (fun e => row_neT HRO6.out HRC6.out (by decide) e)).trans HRO6.out)
              have HZ7 := Lib.hid ((HON7.out.block _ (block_lt HZF.out) (fun e => row_neT HZF.out HRC6.out (by decide) e)).trans HZF.out)
              have O17 := Lib.hid (recs_keep O16.out (fun b hb hlt => HON7.out.block b hlt (fun e => by injection hb with hb; simp only at hb; have h1 := HCG.out; omega)))
              have O27 := Lib.hid (recs_keep O26.out (fun b hb hlt => HON7.out.block b hlt (own_neT O26.out HRC6.out (by decide) b hb)))
              have O37 := Lib.hid (recs_keep O36.out (fun b hb hlt => HON7.out.block b hlt (own_neT O36.out HRC6.out (by decide) b hb)))
              have HB7 := Lib.hid (Only.below HB6.out (by have h1 := HGC0.out; have h2 := HGW.out; omega) HB6.out.size HON7.out)
              clear HON7 HRO6 HZF O16 O26 O36 HB6 HRC6
              have kO := fun j => cell_of_row w7 go j _ _ _ HRO7.out
              obtain ⟨g1, g2⟩ := row_loT 6 HRC7.out rfl rfl
              have hkn : k < t.cs.length := (List.getElem?_eq_some_iff.1 HY.out).1
              have hmx : t.cs.length ≤ 4 := HMAY.out.2.1
              have t6 := (RowOf.of_own O17.out).there (o := k * 6) (n := 6) (by have : (k + 1) * 6 ≤ t.cs.length * 6 := Nat.mul_le_mul_right 6 hkn; omega)
              have c6n : ([.int .i64 y.fl, .int .i64 y.dy, .int .i64 y.va, .int .i64 tq, .int .i64 0, .int .u64 0] : List Value).length = 6 := rfl; have c6c : ([.int .i64 y.fl, .int .i64 y.dy, .int .i64 y.va, .int .i64 tq, .int .i64 0, .int .u64 0] : List Value).all (·.oneCell') = true := rfl
              have hwr : IntKind.i64.wrap ((k : Int) + 1 - 1) = k := by rw [IntKind.wrap_i64]; omega
              go_upto_region 20 with fail
              have OU := Lib.hid (own_setRecT (x := y) (x' := (⟨y.fl, y.dy, y.va, tq, 0, 0⟩ : Cpn)) (l := t.cs) (by rw [list_set_same HY.out]; exact O17.out) hkn)
              have HON8 := Lib.hid ((Only.refl cb w7).setCells (k * 6) [.int .i64 y.fl, .int .i64 y.dy, .int .i64 y.va, .int .i64 tq, .int .i64 0, .int .u64 0])
              have hr1 := (own_rowT O17.out).choose_spec
              have HRO8 := Lib.hid ((HON8.out.block _ (block_lt HRO7.out) (fun e => row_neT HRO7.out hr1 (by decide) e)).trans HRO7.out)
              have HZ8 := Lib.hid ((HON8.out.block _ (block_lt HZ7.out) (fun e => row_neT HZ7.out hr1 (by decide) e)).trans HZ7.out)
              have O28 := Lib.hid (recs_keep O27.out (fun b hb hlt => HON8.out.block b hlt (own_neT O27.out hr1 (by decide) b hb)))
              have O38 := Lib.hid (recs_keep O37.out (fun b hb hlt => HON8.out.block b hlt (own_neT O37.out hr1 (by decide) b hb)))
              have HB8 := Lib.hid (Only.below HB7.out (recs_base O17.out rfl).1 HB7.out.size HON8.out)
              clear kO g1 g2 t6 c6n c6c hwr hr1 HON8 HRO7 HZ7 O17 O27 O37 HB7 HRC7 hkn hmx
              have OU2 : Hid (World.ownsRow (w7.setCells cb (k * 6) [.int .i64 y.fl, .int .i64 y.dy, .int .i64 y.va, .int .i64 tq, .int .i64 0, .int .u64 0]) w.heap.size 44 6 (.slice (some ⟨cb, 0, none⟩) t.cs.length z1) t.cs.length (encL Cpn.cells (t.cs.set k (⟨y.fl, y.dy, y.va, tq, 0, 0⟩ : Cpn)))) := OU
              clear OU
              generalize w7.setCells cb (k * 6) [.int .i64 y.fl, .int .i64 y.dy, .int .i64 y.va, .int .i64 tq, .int .i64 0, .int .u64 0] = w8 at *
              obtain ⟨f1, f2⟩ := row_loT 11 HRO8.out rfl rfl
              have th := there_rowT (n := 11) HZ8.out rfl
              have h1n3 : ([.int .u64 t.num, .string t.loc, .int .i64 t.iss, .slice (some ⟨cb, 0, none⟩) t.cs.length z1, .slice q2 t.ts.length z2, .int .u64 t.prev, .int .u64 t.org, .int .u64 t.fst, .int .i64 t.vou, .int .i64 t.posts, .slice q5 (t.hs.length + 1) z5] : List Value).length = 11 := rfl
              have h1c3 : ([.int .u64 t.num, .string t.loc, .int .i64 t.iss, .slice (some ⟨cb, 0, none⟩) t.cs.length z1, .slice q2 t.ts.length z2, .int .u64 t.prev, .int .u64 t.org, .int .u64 t.fst, .int .i64 t.vou, .int .i64 t.posts, .slice q5 (t.hs.length + 1) z5] : List Value).all (·.oneCell') = true := rfl
              go_wp2
              have hr8 := setCells_rowT (g := w.heap.size + 1) (cs := [.int .u64 t.num, .string t.loc, .int .i64 t.iss, .slice (some ⟨cb, 0, none⟩) t.cs.length z1, .slice q2 t.ts.length z2, .int .u64 t.prev, .int .u64 t.org, .int .u64 t.fst, .int .i64 t.vou, .int .i64 t.posts, .slice q5 (t.hs.length + 1) z5]) HZ8.out rfl
              have hon8 := (Only.refl (w.heap.size + 1) w8).setCells 0 ([.int .u64 t.num, .string t.loc, .int .i64 t.iss, .slice (some ⟨cb, 0, none⟩) t.cs.length z1, .slice q2 t.ts.length z2, .int .u64 t.prev, .int .u64 t.org, .int .u64 t.fst, .int .i64 t.vou, .int .i64 t.posts, .slice q5 (t.hs.length + 1) z5])
              generalize w8.setCells (w.heap.size + 1) 0 ([.int .u64 t.num, .string t.loc, .int .i64 t.iss, .slice (some ⟨cb, 0, none⟩) t.cs.length z1, .slice q2 t.ts.length z2, .int .u64 t.prev, .int .u64 t.org, .int .u64 t.fst, .int .i64 t.vou, .int .i64 t.posts, .slice q5 (t.hs.length + 1) z5]) = w9 at *
              (try simp only [Exit.inBlock, Exit.then])
              refine bodyPost_ret (results_cellT2 rfl _ _ (w.heap.size + 1) rfl (loadTk hr8 rfl)) rfl ?_
              have h9 := HGOOD.out (by first | rfl | trivial)
              rw [Tkt.chg_ok HY.out] at h9
              have keep : ∀ {β : Type} {en : β → List Value} {nn m : Nat} {e : TypeId} {v : Value} {l : List β}, e ≠ 27 → w8.ownsRow w.heap.size e nn v m (encL en l) → w9.ownsRow w.heap.size e nn v m (encL en l) := fun hne ho => recs_keep ho (fun b hb hlt => hon8.block b hlt (own_neT ho HZ8.out hne b hb))
              have hnl1 : (t.hs ++ [(⟨on, (k : Int) + 1, y.st, tq⟩ : Evt)]).length = t.hs.length + 1 := by rw [List.length_append]; rfl
              subst h9
              refine ⟨⟨some ⟨cb, 0, none⟩, t.cs.length, z1⟩, ⟨q2, t.ts.length, z2⟩, ⟨q5, t.hs.length + 1, z5⟩, rfl, ?_, keep (by decide) O28.out, ?_, Only.below HB8.out (by omega) HB8.out.size hon8⟩
              · rw [List.length_set]
                have := keep (by decide) OU2.out
                rwa [HCX.out] at this
              · rw [hnl1]; exact keep (by decide) O38.out
      · rw [if_neg hd] at HEO
        obtain rfl := HEO.out
        have hd3 : on < ld ∨ (ld ≤ on ∧ 1000000 < on) := by omega
        clear hd
        rcases hd3 with hd1 | ⟨hd1, hd2⟩
        all_goals
          go_wp2_with (first | (go_at_call 54; refine (HLD.out _).mono ?_; rintro e wn ⟨rfl, hbn⟩; have HB := Lib.hid (HB.out.trans (hbn.mono HB.out.size)); have HR := Lib.hid ((hbn.block _ (block_lt HR.out)).trans HR.out); have HZ := Lib.hid ((hbn.block _ (block_lt HZ.out)).trans HZ.out); have HRO := Lib.hid ((hbn.block _ (block_lt HRO.out)).trans HRO.out); have HRC := Lib.hid ((hbn.block _ (block_lt HRC.out)).trans HRC.out); have O1 := Lib.hid (recs_below O1.out hbn); have O2 := Lib.hid (recs_below O2.out hbn); have O3 := Lib.hid (recs_below O3.out hbn); have hcc := fun j => cell_of_row _ gc j _ _ _ HRC.out; have hc := fun j => cell_of_row _ w.heap.size j _ _ _ HR.out; obtain ⟨f1, f2⟩ := row_loT 11 HR.out rfl rfl; have th := there_rowT (n := 11) HZ.out rfl; clear hbn) | (go_at_call 37; refine (HLA.out _ HB.out).mono ?_; rintro e wn ⟨rfl, hbn⟩; have HB := Lib.hid (HB.out.trans (hbn.mono HB.out.size)); have HR := Lib.hid ((hbn.block _ (block_lt HR.out)).trans HR.out); have HZ := Lib.hid ((hbn.block _ (block_lt HZ.out)).trans HZ.out); have HRO := Lib.hid ((hbn.block _ (block_lt HRO.out)).trans HRO.out); have HRC := Lib.hid ((hbn.block _ (block_lt HRC.out)).trans HRC.out); have O1 := Lib.hid (recs_below O1.out hbn); have O2 := Lib.hid (recs_below O2.out hbn); have O3 := Lib.hid (recs_below O3.out hbn); have hcc := fun j => cell_of_row _ gc j _ _ _ HRC.out; have hc := fun j => cell_of_row _ w.heap.size j _ _ _ HR.out; obtain ⟨f1, f2⟩ := row_loT 11 HR.out rfl rfl; have th := there_rowT (n := 11) HZ.out rfl; clear hbn))
          (try simp only [Exit.inBlock, Exit.then])
          have hr6 := setCells_rowT (g := w.heap.size + 1) (cs := [.int .u64 0, .string ⟨#[]⟩, .int .i64 0, .slice none 0 0, .slice none 0 0, .int .u64 0, .int .u64 0, .int .u64 0, .int .i64 0, .int .i64 0, .slice none 0 0]) HZ.out rfl
          refine bodyPost_ret (results_cellT2 rfl _ _ (w.heap.size + 1) rfl (loadTk hr6 rfl)) rfl ?_
          obtain rfl := HBAD.out (by decide)
          exact ⟨⟨none, 0, 0⟩, ⟨none, 0, 0⟩, ⟨none, 0, 0⟩, rfl, World.ownsRow_nil _ _ _ _, World.ownsRow_nil _ _ _ _, World.ownsRow_nil _ _ _ _, Only.below HB.out (by omega) HB.out.size ((Only.refl (w.heap.size + 1) _).setCells 0 _)⟩
    · have hl2 : Tkt.leadsB y.st tq = false := by simpa using hl
      rw [hl2] at HLD
      rw [if_neg hl] at HEO
      obtain rfl := HEO.out
      clear hl hl2
      go_wp2_with (first | (go_at_call 54; refine (HLD.out _).mono ?_; rintro e wn ⟨rfl, hbn⟩; have HB := Lib.hid (HB.out.trans (hbn.mono HB.out.size)); have HR := Lib.hid ((hbn.block _ (block_lt HR.out)).trans HR.out); have HZ := Lib.hid ((hbn.block _ (block_lt HZ.out)).trans HZ.out); have HRO := Lib.hid ((hbn.block _ (block_lt HRO.out)).trans HRO.out); have HRC := Lib.hid ((hbn.block _ (block_lt HRC.out)).trans HRC.out); have O1 := Lib.hid (recs_below O1.out hbn); have O2 := Lib.hid (recs_below O2.out hbn); have O3 := Lib.hid (recs_below O3.out hbn); have hcc := fun j => cell_of_row _ gc j _ _ _ HRC.out; have hc := fun j => cell_of_row _ w.heap.size j _ _ _ HR.out; obtain ⟨f1, f2⟩ := row_loT 11 HR.out rfl rfl; have th := there_rowT (n := 11) HZ.out rfl; clear hbn) | (go_at_call 37; refine (HLA.out _ HB.out).mono ?_; rintro e wn ⟨rfl, hbn⟩; have HB := Lib.hid (HB.out.trans (hbn.mono HB.out.size)); have HR := Lib.hid ((hbn.block _ (block_lt HR.out)).trans HR.out); have HZ := Lib.hid ((hbn.block _ (block_lt HZ.out)).trans HZ.out); have HRO := Lib.hid ((hbn.block _ (block_lt HRO.out)).trans HRO.out); have HRC := Lib.hid ((hbn.block _ (block_lt HRC.out)).trans HRC.out); have O1 := Lib.hid (recs_below O1.out hbn); have O2 := Lib.hid (recs_below O2.out hbn); have O3 := Lib.hid (recs_below O3.out hbn); have hcc := fun j => cell_of_row _ gc j _ _ _ HRC.out; have hc := fun j => cell_of_row _ w.heap.size j _ _ _ HR.out; obtain ⟨f1, f2⟩ := row_loT 11 HR.out rfl rfl; have th := there_rowT (n := 11) HZ.out rfl; clear hbn))
      (try simp only [Exit.inBlock, Exit.then])
      have hr6 := setCells_rowT (g := w.heap.size + 1) (cs := [.int .u64 0, .string ⟨#[]⟩, .int .i64 0, .slice none 0 0, .slice none 0 0, .int .u64 0, .int .u64 0, .int .u64 0, .int .i64 0, .int .i64 0, .slice none 0 0]) HZ.out rfl
      refine bodyPost_ret (results_cellT2 rfl _ _ (w.heap.size + 1) rfl (loadTk hr6 rfl)) rfl ?_
      obtain rfl := HBAD.out (by decide)
      exact ⟨⟨none, 0, 0⟩, ⟨none, 0, 0⟩, ⟨none, 0, 0⟩, rfl, World.ownsRow_nil _ _ _ _, World.ownsRow_nil _ _ _ _, World.ownsRow_nil _ _ _ _, Only.below HB.out (by omega) HB.out.size ((Only.refl (w.heap.size + 1) _).setCells 0 _)⟩
  · have hE : er = 2 := by
      rw [← HER.out, Tkt.errC, if_neg]
      rintro ⟨g1, g2, g3, g4⟩
      exact hok ⟨by rw [← HMB.out]; exact g1, g2, by have := HN3.out; omega, by rw [← HFI.out]; exact g4⟩
    subst hE
    have hok2 : mb = false ∨ (mb = true ∧ co < 1) ∨ (mb = true ∧ 1 ≤ co ∧ (c.n : Int) < co) ∨ (mb = true ∧ 1 ≤ co ∧ co ≤ c.n ∧ fits = false) := by
      rcases Int.lt_or_le co 1 with g1 | g1 <;> rcases Int.lt_or_le c.n co with g2 | g2 <;> cases mb <;> cases fits <;> simp_all
    clear hok
    rcases hok2 with rfl | ⟨rfl, hx1⟩ | ⟨rfl, hx1, hx2⟩ | ⟨rfl, hx1, hx2, rfl⟩
    all_goals
      go_wp2_with (first | (go_at_call 18; refine (HM.out _ HB.out).mono ?_; rintro e wn ⟨rfl, hbn⟩; have HB := Lib.hid (HB.out.trans (hbn.mono HB.out.size)); have HR := Lib.hid ((hbn.block _ (block_lt HR.out)).trans HR.out); have HZ := Lib.hid ((hbn.block _ (block_lt HZ.out)).trans HZ.out); have hc := fun j => cell_of_row _ w.heap.size j _ _ _ HR.out; obtain ⟨f1, f2⟩ := row_loT 11 HR.out rfl rfl; have th := there_rowT (n := 11) HZ.out rfl; clear hbn) | (go_at_call 53; refine (HMW.out _).mono ?_; rintro e wn ⟨rfl, hbn⟩; have HB := Lib.hid (HB.out.trans (hbn.mono HB.out.size)); have HR := Lib.hid ((hbn.block _ (block_lt HR.out)).trans HR.out); have HZ := Lib.hid ((hbn.block _ (block_lt HZ.out)).trans HZ.out); have hc := fun j => cell_of_row _ w.heap.size j _ _ _ HR.out; obtain ⟨f1, f2⟩ := row_loT 11 HR.out rfl rfl; have th := there_rowT (n := 11) HZ.out rfl; clear hbn))
      (try simp only [Exit.inBlock, Exit.then])
      have hr6 := setCells_rowT (g := w.heap.size + 1) (cs := [.int .u64 0, .string ⟨#[]⟩, .int .i64 0, .slice none 0 0, .slice none 0 0, .int .u64 0, .int .u64 0, .int .u64 0, .int .i64 0, .int .i64 0, .slice none 0 0]) HZ.out rfl
      refine bodyPost_ret (results_cellT2 rfl _ _ (w.heap.size + 1) rfl (loadTk hr6 rfl)) rfl ?_
      obtain rfl := HBAD.out (by decide)
      exact ⟨⟨none, 0, 0⟩, ⟨none, 0, 0⟩, ⟨none, 0, 0⟩, rfl, World.ownsRow_nil _ _ _ _, World.ownsRow_nil _ _ _ _, World.ownsRow_nil _ _ _ _, Only.below HB.out (by omega) HB.out.size ((Only.refl (w.heap.size + 1) _).setCells 0 _)⟩
end Go.Proofs.Ytmadkfahkbdibaa
