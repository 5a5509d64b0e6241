/- Contract: a ticket's change. -/
import Derived.Test.YtadabjkhiaidcaaDsl3
import Derived.Test.YtadabjkhiaidcaaDsl13
import Derived.Deep.CutBlock

set_option linter.unusedVariables false
set_option linter.unusedSimpArgs false
namespace Go.Proofs.Ytadabjkhiaidcaa
open Go.RowKit

attribute [local go_sem ↓] Tk_execLoad Tk_execStore

attribute [local go_sem] Tk_load Tk_store loL_drew okL_drew there_sc World.there_drew

set_option maxRecDepth 4000 in
set_option maxHeartbeats 8000000 in
theorem tchange_any (t : Tk) (c x h : Sl) (co on tq wi : Int) (hco : I64 co) (hon : I64 on) (hwi : U64 wi) (w : World) (ts : TS w t c x h) : Calls Try.prog 74 #[.agg #[.int .u64 t.num, .string t.loc, .int .i64 t.iss, .slice c.p c.n c.c, .slice x.p x.n x.c, .int .u64 t.prev, .int .u64 t.org, .int .u64 t.fst, .int .i64 t.vou, .int .i64 t.posts, .slice h.p h.n h.c], .int .i64 co, .int .i64 on, .int .i64 tq, .int .u64 wi] w fun e w' => ∃ c' x' h' : Sl, e = .returned (.tuple #[.agg #[.int .u64 (Tkt.chgT t co on tq wi).num, .string (Tkt.chgT t co on tq wi).loc, .int .i64 (Tkt.chgT t co on tq wi).iss, .slice c'.p c'.n c'.c, .slice x'.p x'.n x'.c, .int .u64 (Tkt.chgT t co on tq wi).prev, .int .u64 (Tkt.chgT t co on tq wi).org, .int .u64 (Tkt.chgT t co on tq wi).fst, .int .i64 (Tkt.chgT t co on tq wi).vou, .int .i64 (Tkt.chgT t co on tq wi).posts, .slice h'.p h'.n h'.c], .int .i64 (Tkt.errC t co on tq wi)]) ∧ w'.ownsRow w.heap.size 37 6 (.slice c'.p c'.n c'.c) (Tkt.chgT t co on tq wi).cs.length (encL Cpn.cells (Tkt.chgT t co on tq wi).cs) ∧ w'.ownsRow w.heap.size 56 2 (.slice x'.p x'.n x'.c) (Tkt.chgT t co on tq wi).ts.length (encL Txx.cells (Tkt.chgT t co on tq wi).ts) ∧ w'.ownsRow w.heap.size 96 4 (.slice h'.p h'.n h'.c) (Tkt.chgT t co on tq wi).hs.length (encL Evt.cells (Tkt.chgT t co on tq wi).hs) ∧ Below w.heap.size w w' := by
  obtain ⟨ph, nh, ch⟩ := h
  simp only at *
  have HTS := Lib.hid ts
  have HB := Lib.hid (((Below.refl w.heap.size w).alloc (Nat.le_refl _) (.cells #[.int .u64 t.num, .string t.loc, .int .i64 t.iss, .slice c.p c.n c.c, .slice x.p x.n x.c, .int .u64 t.prev, .int .u64 t.org, .int .u64 t.fst, .int .i64 t.vou, .int .i64 t.posts, .slice ph nh ch] 45 (0, 0))).alloc (by simp) (.cells #[.int .u64 0, .string ⟨#[]⟩, .int .i64 0, .slice none 0 0, .slice none 0 0, .int .u64 0, .int .u64 0, .int .u64 0, .int .i64 0, .int .i64 0, .slice none 0 0] 45 (0, 0)))
  have HR : Hid (((w.alloc (.cells #[.int .u64 t.num, .string t.loc, .int .i64 t.iss, .slice c.p c.n c.c, .slice x.p x.n x.c, .int .u64 t.prev, .int .u64 t.org, .int .u64 t.fst, .int .i64 t.vou, .int .i64 t.posts, .slice ph nh ch] 45 (0, 0))).alloc (.cells #[.int .u64 0, .string ⟨#[]⟩, .int .i64 0, .slice none 0 0, .slice none 0 0, .int .u64 0, .int .u64 0, .int .u64 0, .int .i64 0, .int .i64 0, .slice none 0 0] 45 (0, 0))).heap[w.heap.size]? = some (.cells #[.int .u64 t.num, .string t.loc, .int .i64 t.iss, .slice c.p c.n c.c, .slice x.p x.n x.c, .int .u64 t.prev, .int .u64 t.org, .int .u64 t.fst, .int .i64 t.vou, .int .i64 t.posts, .slice ph nh ch] 45 (0, 0))) := Lib.hid (row_after (new_rowW _ _ _ rfl))
  have HZ : Hid (((w.alloc (.cells #[.int .u64 t.num, .string t.loc, .int .i64 t.iss, .slice c.p c.n c.c, .slice x.p x.n x.c, .int .u64 t.prev, .int .u64 t.org, .int .u64 t.fst, .int .i64 t.vou, .int .i64 t.posts, .slice ph nh ch] 45 (0, 0))).alloc (.cells #[.int .u64 0, .string ⟨#[]⟩, .int .i64 0, .slice none 0 0, .slice none 0 0, .int .u64 0, .int .u64 0, .int .u64 0, .int .i64 0, .int .i64 0, .slice none 0 0] 45 (0, 0))).heap[w.heap.size + 1]? = some (.cells #[.int .u64 0, .string ⟨#[]⟩, .int .i64 0, .slice none 0 0, .slice none 0 0, .int .u64 0, .int .u64 0, .int .u64 0, .int .i64 0, .int .i64 0, .slice none 0 0] 45 (0, 0))) := Lib.hid (new_rowW _ _ _ (by simp))
  have hc := fun j => cell_of_row _ w.heap.size j _ _ _ HR.out
  obtain ⟨f1, f2⟩ := row_loT 11 HR.out rfl rfl
  have th := there_rowT (n := 11) HZ.out rfl
  have HH := Lib.hid (fun W => holder_any t c x ⟨ph, nh, ch⟩ wi hwi ts.wf.num W)
  have HO := Lib.hid (fun W => other_any t c x ⟨ph, nh, ch⟩ wi hwi W)
  have HM := Lib.hid (fun W hW => tmay_any t c x ⟨ph, nh, ch⟩ W (ts.below hW))
  have HCL := Lib.hid (fun W hW => tclone_any t c x ⟨ph, nh, ch⟩ W (ts.below hW))
  have HN := Lib.hid ts.cs.length
  have HNH := Lib.hid ts.hs.length
  obtain ⟨t', ht'⟩ : ∃ t', Tkt.chgT t co on tq wi = t' := ⟨_, rfl⟩
  obtain ⟨er, her⟩ : ∃ er, Tkt.errC t co on tq wi = er := ⟨_, rfl⟩
  rw [ht', her]
  have HT' := Lib.hid ht'; have HER := Lib.hid her
  have HBAD : Hid (er ≠ 0 → Tkt.zTk = t') := Lib.hid (fun hne => by rw [← ht', Tkt.chgT, her, if_neg hne])
  have HGOOD : Hid (er = 0 → Tkt.chg t co on tq wi = t') := Lib.hid (fun hne => by rw [← ht', Tkt.chgT, her, if_pos hne])
  obtain ⟨fits, hfits⟩ : ∃ f, Tkt.withB t.num tq wi = f := ⟨_, rfl⟩
  have HFI := Lib.hid hfits
  obtain ⟨hco1, hco2⟩ := hco
  clear ht' her hfits ts
  go_enter Try.func74, Try.ntmps74
  go_upto_block 0 with fail
  go_cut [12] (fun fv wx => fv = .bool fits ∧ Below w.heap.size w wx ∧ wx.heap[w.heap.size]? = some (.cells #[.int .u64 t.num, .string t.loc, .int .i64 t.iss, .slice c.p c.n c.c, .slice x.p x.n x.c, .int .u64 t.prev, .int .u64 t.org, .int .u64 t.fst, .int .i64 t.vou, .int .i64 t.posts, .slice ph nh ch] 45 (0, 0)) ∧ wx.heap[w.heap.size + 1]? = some (.cells #[.int .u64 0, .string ⟨#[]⟩, .int .i64 0, .slice none 0 0, .slice none 0 0, .int .u64 0, .int .u64 0, .int .u64 0, .int .i64 0, .int .i64 0, .slice none 0 0] 45 (0, 0)))
  case first =>
    by_cases hq9 : tq = 9
    · subst hq9
      have hf : Tkt.holdB t.num wi = fits := by rw [← HFI.out, Tkt.withB, if_pos rfl]
      rw [hf] at HH
      go_wp2_with (go_at_call 96; refine (HH.out _).mono ?_; rintro e wn ⟨rfl, hbn⟩; have HB := Lib.hid (HB.out.trans (hbn.mono HB.out.size)); have HR := Lib.hid ((hbn.block _ (block_lt HR.out)).trans HR.out); have HZ := Lib.hid ((hbn.block _ (block_lt HZ.out)).trans HZ.out); have hc := fun j => cell_of_row _ w.heap.size j _ _ _ HR.out; obtain ⟨f1, f2⟩ := row_loT 11 HR.out rfl rfl; have th := there_rowT (n := 11) HZ.out rfl; clear hbn)
      go_meet
      exact ⟨rfl, HB.out, HR.out, HZ.out⟩
    · by_cases hq5 : tq = 5
      · subst hq5
        have hf : Tkt.othB t.num wi = fits := by rw [← HFI.out, Tkt.withB, if_neg (by decide), if_pos rfl]
        rw [hf] at HO
        go_wp2_with (go_at_call 97; refine (HO.out _).mono ?_; rintro e wn ⟨rfl, hbn⟩; have HB := Lib.hid (HB.out.trans (hbn.mono HB.out.size)); have HR := Lib.hid ((hbn.block _ (block_lt HR.out)).trans HR.out); have HZ := Lib.hid ((hbn.block _ (block_lt HZ.out)).trans HZ.out); have hc := fun j => cell_of_row _ w.heap.size j _ _ _ HR.out; obtain ⟨f1, f2⟩ := row_loT 11 HR.out rfl rfl; have th := there_rowT (n := 11) HZ.out rfl; clear hbn)
        go_meet
        exact ⟨rfl, HB.out, HR.out, HZ.out⟩
      · have hf : decide (wi = 0) = fits := by rw [← HFI.out, Tkt.withB, if_neg hq9, if_neg hq5]
        go_wp2_with fail
        go_meet
        exact ⟨congrArg Value.bool (by rw [← hf, Bool.eq_iff_iff]; simp), HB.out, HR.out, HZ.out⟩
  case rest =>
    obtain ⟨rfl, hb0, hr0, hz0⟩ := hcut
    clear hc f1 f2 th HB HR HZ HH HO
    have HB := Lib.hid hb0; have HR := Lib.hid hr0; have HZ := Lib.hid hz0
    clear hb0 hr0 hz0
    have hc := fun j => cell_of_row _ w.heap.size j _ _ _ HR.out
    obtain ⟨f1, f2⟩ := row_loT 11 HR.out rfl rfl
    have th := there_rowT (n := 11) HZ.out rfl
    have h1n : ([.int .u64 0, .string ⟨#[]⟩, .int .i64 0, .slice none 0 0, .slice none 0 0, .int .u64 0, .int .u64 0, .int .u64 0, .int .i64 0, .int .i64 0, .slice none 0 0] : List Value).length = 11 := rfl
    have h1c : ([.int .u64 0, .string ⟨#[]⟩, .int .i64 0, .slice none 0 0, .slice none 0 0, .int .u64 0, .int .u64 0, .int .u64 0, .int .i64 0, .int .i64 0, .slice none 0 0] : List Value).all (·.oneCell') = true := rfl
    obtain ⟨mb, hmb⟩ : ∃ m, Tkt.mayB t = m := ⟨_, rfl⟩
    rw [hmb] at HM
    have HMB := Lib.hid hmb
    clear hmb
    have hn1 := HN.out.2.1
    have hn2 := HN.out.2.2
    have HN3 := Lib.hid HN.out.1
    unfold maxLen at hn2
    by_cases hok : mb = true ∧ 1 ≤ co ∧ co ≤ c.n ∧ fits = true
    · obtain ⟨rfl, hk1, hk2, rfl⟩ := hok
      go_upto_region 9 with (go_at_call 60; refine (HM.out _ HB.out).mono ?_; rintro e wn ⟨rfl, hbn⟩; have HB := Lib.hid (HB.out.trans (hbn.mono HB.out.size)); have HR := Lib.hid ((hbn.block _ (block_lt HR.out)).trans HR.out); have HZ := Lib.hid ((hbn.block _ (block_lt HZ.out)).trans HZ.out); have hc := fun j => cell_of_row _ w.heap.size j _ _ _ HR.out; obtain ⟨f1, f2⟩ := row_loT 11 HR.out rfl rfl; have th := there_rowT (n := 11) HZ.out rfl; clear hbn)
      go_upto_if 54 with fail
      go_cut [13] (fun lv wx => lv = .int .i64 (Tkt.lastD t) ∧ wx = wn)
      case first =>
        by_cases hh : nh = 0
        · subst hh
          have hl : t.iss = Tkt.lastD t := by rw [Tkt.lastD, List.length_eq_zero_iff.1 (HNH.out.1.symm)]; rfl
          go_wp2_with fail
          go_meet
          exact ⟨by rw [← hl], rfl⟩
        · obtain ⟨m, rfl⟩ : ∃ m, nh = m + 1 := ⟨nh - 1, by omega⟩
          have hml : t.hs.length = m + 1 := HNH.out.1.symm
          have hm2 := HNH.out.2.1
          have hm3 := HNH.out.2.2
          unfold maxLen at hm3
          obtain ⟨z, hz⟩ : ∃ z, t.hs[m]? = some z := ⟨_, List.getElem?_eq_getElem (by omega)⟩
          have hl : z.dy = Tkt.lastD t := by rw [Tkt.lastD, List.getLast?_eq_getElem?, hml, Nat.add_sub_cancel, hz]
          obtain ⟨bb, o, hp, hbl, hr⟩ := (HTS.out.hs.below HB.out).at hz
          subst hp
          have c0 : wn.cell? ⟨bb, o + m * 4, none⟩ = some (.int .i64 z.dy) := hr 0 _ rfl
          have hwr : IntKind.i64.wrap ((m : Int) + 1 - 1) = m := by rw [IntKind.wrap_i64]; omega
          have HLL := Lib.hid hl
          clear hr hz hl hml
          go_wp2_with fail
          go_meet
          exact ⟨by rw [← HLL.out], rfl⟩
      case rest =>
        obtain ⟨rfl, rfl⟩ := hcut
        have hmay := Tkt.mayB_lens HMB.out
        obtain ⟨k, rfl⟩ : ∃ k : Nat, co = (k : Int) + 1 := ⟨(co - 1).toNat, by omega⟩
        have hkn : k < t.cs.length := by have := HN3.out; omega
        obtain ⟨y, hy⟩ : ∃ y, t.cs[k]? = some y := ⟨_, List.getElem?_eq_getElem hkn⟩
        have HY := Lib.hid hy
        have HMAY := Lib.hid hmay
        clear hy hmay
        go_wp2_with fail
        refine (HCL.out _ HB.out (by have := HMAY.out; omega) (by have := HMAY.out; omega) (by have := HMAY.out; omega)).mono ?_
        rintro e wm ⟨⟨q1, n1, z1⟩, ⟨q2, n2, z2⟩, ⟨q3, n3, z3⟩, rfl, hw1, hw2, hw3, hbm⟩
        dsimp only at hw1 hw2 hw3
        obtain ⟨cb, ccap, hv1⟩ := own_someT hw1 (by omega)
        obtain ⟨qq2, zz2, hv2⟩ := rec_formT hw2
        obtain ⟨qq3, zz3, hv3⟩ := rec_formT hw3
        injection hv1 with e1 e2 e3; injection hv2 with e4 e5 e6; injection hv3 with e7 e8 e9
        subst e1 e2 e3 e4 e5 e6 e7 e8 e9
        have O1 := Lib.hid (own_monoT hw1 HB.out.size); have O2 := Lib.hid (own_monoT hw2 HB.out.size); have O3 := Lib.hid (own_monoT hw3 HB.out.size)
        have HB := Lib.hid (HB.out.trans (hbm.mono HB.out.size)); have HR := Lib.hid ((hbm.block _ (block_lt HR.out)).trans HR.out); have HZ := Lib.hid ((hbm.block _ (block_lt HZ.out)).trans HZ.out); have hc := fun j => cell_of_row _ w.heap.size j _ _ _ HR.out; obtain ⟨f1, f2⟩ := row_loT 11 HR.out rfl rfl; have th := there_rowT (n := 11) HZ.out rfl; clear hbm
        have th2 := there_rowT (n := 11) HR.out rfl; have h1n2 : ([.int .u64 t.num, .string t.loc, .int .i64 t.iss, .slice (some ⟨cb, 0, none⟩) t.cs.length z1, .slice q2 t.ts.length z2, .int .u64 t.prev, .int .u64 t.org, .int .u64 t.fst, .int .i64 t.vou, .int .i64 t.posts, .slice q3 t.hs.length z3] : List Value).length = 11 := rfl; have h1c2 : ([.int .u64 t.num, .string t.loc, .int .i64 t.iss, .slice (some ⟨cb, 0, none⟩) t.cs.length z1, .slice q2 t.ts.length z2, .int .u64 t.prev, .int .u64 t.org, .int .u64 t.fst, .int .i64 t.vou, .int .i64 t.posts, .slice q3 t.hs.length z3] : List Value).all (·.oneCell') = true := rfl; clear hw1 hw2 hw3
        go_upto_region 14 with fail
        have HR3 : Hid ((wm.setCells w.heap.size 0 [.int .u64 t.num, .string t.loc, .int .i64 t.iss, .slice (some ⟨cb, 0, none⟩) t.cs.length z1, .slice q2 t.ts.length z2, .int .u64 t.prev, .int .u64 t.org, .int .u64 t.fst, .int .i64 t.vou, .int .i64 t.posts, .slice q3 t.hs.length z3]).heap[w.heap.size]? = some (.cells #[.int .u64 t.num, .string t.loc, .int .i64 t.iss, .slice (some ⟨cb, 0, none⟩) t.cs.length z1, .slice q2 t.ts.length z2, .int .u64 t.prev, .int .u64 t.org, .int .u64 t.fst, .int .i64 t.vou, .int .i64 t.posts, .slice q3 t.hs.length z3] 45 (0, 0))) := Lib.hid (setCells_rowT HR.out rfl)
        have HON3 : Hid (Only w.heap.size wm (wm.setCells w.heap.size 0 [.int .u64 t.num, .string t.loc, .int .i64 t.iss, .slice (some ⟨cb, 0, none⟩) t.cs.length z1, .slice q2 t.ts.length z2, .int .u64 t.prev, .int .u64 t.org, .int .u64 t.fst, .int .i64 t.vou, .int .i64 t.posts, .slice q3 t.hs.length z3])) := Lib.hid ((Only.refl w.heap.size wm).setCells 0 _)
        clear f1 f2 th th2 h1n2 h1c2 hc
        generalize wm.setCells w.heap.size 0 [.int .u64 t.num, .string t.loc, .int .i64 t.iss, .slice (some ⟨cb, 0, none⟩) t.cs.length z1, .slice q2 t.ts.length z2, .int .u64 t.prev, .int .u64 t.org, .int .u64 t.fst, .int .i64 t.vou, .int .i64 t.posts, .slice q3 t.hs.length z3] = w3 at *
        have HZ3 := Lib.hid ((HON3.out.block _ (block_lt HZ.out) (by omega)).trans HZ.out)
        have HO1 := Lib.hid (recs_keep O1.out (fun b hb hlt => HON3.out.block b hlt (own_neT O1.out HR.out (by decide) b hb)))
        have HO2 := Lib.hid (recs_keep O2.out (fun b hb hlt => HON3.out.block b hlt (own_neT O2.out HR.out (by decide) b hb)))
        have HO3 := Lib.hid (recs_keep O3.out (fun b hb hlt => HON3.out.block b hlt (own_neT O3.out HR.out (by decide) b hb)))
        have HB3 := Lib.hid (Only.below HB.out (Nat.le_refl _) HB.out.size HON3.out)
        clear HB HR HZ O1 O2 O3 HON3
        have HB := HB3; have HR := HR3; have HZ := HZ3
        clear HB3 HR3 HZ3
        have hc := fun j => cell_of_row _ w.heap.size j _ _ _ HR.out
        have th := there_rowT (n := 11) HZ.out rfl
        have hst : w3.cell? ⟨cb, k * 6 + 3, none⟩ = some (.int .i64 y.st) := (own_cellT Cpn.cells_length HO1.out HY.out (by decide : 3 < 6)).1
        have hwr : IntKind.i64.wrap ((k : Int) + 1 - 1) = k := by rw [IntKind.wrap_i64]; omega
        have HEO := Lib.hid (Tkt.errC_ok (on := on) HMB.out HY.out HFI.out)
        rw [HER.out] at HEO
        have HLD := Lib.hid (fun W => leads_any y.st tq W)
        have HNLB := Lib.hid HMAY.out.2.2.2
        generalize hnl : t.hs.length = nl at *
        have HNL := Lib.hid hnl
        clear hnl
        obtain ⟨ld, hld⟩ : ∃ l, Tkt.lastD t = l := ⟨_, rfl⟩
        rw [hld] at HEO
        rw [hld]
        clear hld
        by_cases hl : Tkt.leadsB y.st tq = true
        · rw [hl] at HLD
          rw [if_pos hl] at HEO
          clear hl
          by_cases hd : ld ≤ on ∧ on ≤ 1000000
          · rw [if_pos hd] at HEO
            have hd1b : decide (on < ld) = false := decide_eq_false (by omega)
            have hd2b : decide (1000000 < on) = false := decide_eq_false (by omega)
            clear hd
            by_cases h60 : nl = 60
            · rw [if_pos h60] at HEO
              have h6 := Lib.hid HEO.out
              obtain rfl := h6.out
              have h60b : ((nl : Int) == 60) = true := by rw [h60]; rfl
              have h60i : (nl : Int) = 60 := by omega
              clear h60
              go_wp2_with (go_at_call 43; refine (HLD.out _).mono ?_; rintro e wn ⟨rfl, rfl⟩)
              (try simp only [Exit.inBlock, Exit.then])
              have hr6 := setCells_rowT (g := w.heap.size + 1) (cs := [.int .u64 0, .string ⟨#[]⟩, .int .i64 0, .slice none 0 0, .slice none 0 0, .int .u64 0, .int .u64 0, .int .u64 0, .int .i64 0, .int .i64 0, .slice none 0 0]) HZ.out rfl
              refine bodyPost_ret (results_cellT2 rfl _ _ (w.heap.size + 1) rfl (loadTk hr6 rfl)) rfl ?_
              obtain rfl := HBAD.out (by decide)
              exact ⟨⟨none, 0, 0⟩, ⟨none, 0, 0⟩, ⟨none, 0, 0⟩, rfl, World.ownsRow_nil _ _ _ _, World.ownsRow_nil _ _ _ _, World.ownsRow_nil _ _ _ _, Only.below HB.out (by omega) HB.out.size ((Only.refl (w.heap.size + 1) _).setCells 0 _)⟩
            · rw [if_neg h60] at HEO
              obtain rfl := HEO.out
              have h60b : ((nl : Int) == 60) = false := beq_eq_false_iff_ne.2 (by omega)
              have h60i : ¬ ((nl : Int) = 60) := by omega
              clear h60
              go_upto_region 21 with (go_at_call 43; refine (HLD.out _).mono ?_; rintro e wn ⟨rfl, rfl⟩)
              have HST : Hid (∀ W : World, W.heap[w.heap.size]? = some (.cells #[.int .u64 t.num, .string t.loc, .int .i64 t.iss, .slice (some ⟨cb, 0, none⟩) t.cs.length z1, .slice q2 t.ts.length z2, .int .u64 t.prev, .int .u64 t.org, .int .u64 t.fst, .int .i64 t.vou, .int .i64 t.posts, .slice q3 nl z3] 45 (0, 0)) → W.ownsRow w.heap.size 37 6 (.slice (some ⟨cb, 0, none⟩) t.cs.length z1) t.cs.length (encL Cpn.cells t.cs) → W.cell? ⟨w.heap.size, 10, none⟩ = some (.slice q3 nl z3) ∧ W.cell? ⟨cb, k * 6 + 3, none⟩ = some (.int .i64 y.st)) := Lib.hid (fun W hW hO => ⟨cell_of_row _ _ 10 _ _ _ hW, (own_cellT Cpn.cells_length hO HY.out (by decide : 3 < 6)).1⟩)
              refine wp_region_G (C := fun W => W.cell? ⟨w.heap.size, 10, none⟩ = some (.slice q3 nl z3) ∧ W.cell? ⟨cb, k * 6 + 3, none⟩ = some (.int .i64 y.st)) (s0 := 13) (by kernel_rfl) ?_
              have HO1 := Lib.hid (recs_below HO1.out ((Below.refl w3.heap.size w3).drew))
              have HO2 := Lib.hid (recs_below HO2.out ((Below.refl w3.heap.size w3).drew))
              have HO3 := Lib.hid (recs_below HO3.out ((Below.refl w3.heap.size w3).drew))
              have HB := Lib.hid HB.out.drew
              have HR := Lib.hid (row_drewT HR.out)
              have HZ := Lib.hid (row_drewT HZ.out)
              clear hc th hst
              generalize w3.drew = w4 at *
              have hHeld := HST.out _ HR.out HO1.out
              refine wpAnyG_take (i := 0) (oi := { dst := some 93, op := Op.fieldAddr 45 (Operand.tmp 5) 10, type := 0, pos := "ticket.go:267", after := #[], guard := none }) (v := ?_) rfl (by kernel_rfl) (by kernel_rfl) (by kernel_rfl) (by decide) (by kernel_rfl) (by kernel_rfl) (fun _ _ _ h => h) (Or.inl ⟨by rfl, ?_⟩) (by assumption) ?_
              rotate_left
              · intro w hSw; (try dsimp only at hSw); go_simp; try with_reducible rfl
              try simp only [Act.put, List.setIfInBounds_toArray, List.set_cons_zero, List.set_cons_succ]
              refine wpAnyG_take (i := 1) (oi := { dst := some 94, op := Op.load 43 (Operand.tmp 93), type := 43, pos := "ticket.go:267", after := #[{ on := 0, ground := Ground.data }], guard := none }) (v := ?_) rfl (by kernel_rfl) (by kernel_rfl) (by kernel_rfl) (by decide) (by kernel_rfl) (by kernel_rfl) (fun _ _ _ h => h) (Or.inl ⟨by rfl, ?_⟩) (by assumption) ?_
              rotate_left
              · intro w hSw; (try dsimp only at hSw); go_simp; try with_reducible rfl
              try simp only [Act.put, List.setIfInBounds_toArray, List.set_cons_zero, List.set_cons_succ]
              refine wpAnyG_take (i := 2) (oi := { dst := some 95, op := Op.move (Operand.tmp 2), type := 3, pos := "ticket.go:267", after := #[], guard := none }) (v := ?_) rfl (by kernel_rfl) (by kernel_rfl) (by kernel_rfl) (by decide) (by kernel_rfl) (by kernel_rfl) (fun _ _ _ h => h) (Or.inl ⟨by rfl, ?_⟩) (by assumption) ?_
              rotate_left
              · intro w hSw; (try dsimp only at hSw); go_simp; try with_reducible rfl
              try simp only [Act.put, List.setIfInBounds_toArray, List.set_cons_zero, List.set_cons_succ]
              refine wpAnyG_take (i := 3) (oi := { dst := some 96, op := Op.move (Operand.tmp 1), type := 3, pos := "ticket.go:267", after := #[], guard := none }) (v := ?_) rfl (by kernel_rfl) (by kernel_rfl) (by kernel_rfl) (by decide) (by kernel_rfl) (by kernel_rfl) (fun _ _ _ h => h) (Or.inl ⟨by rfl, ?_⟩) (by assumption) ?_
              rotate_left
              · intro w hSw; (try dsimp only at hSw); go_simp; try with_reducible rfl
              try simp only [Act.put, List.setIfInBounds_toArray, List.set_cons_zero, List.set_cons_succ]
              refine wpAnyG_take (i := 4) (oi := { dst := some 97, op := Op.move (Operand.tmp 15), type := 116, pos := "ticket.go:267", after := #[], guard := none }) (v := ?_) rfl (by kernel_rfl) (by kernel_rfl) (by kernel_rfl) (by decide) (by kernel_rfl) (by kernel_rfl) (fun _ _ _ h => h) (Or.inl ⟨by rfl, ?_⟩) (by assumption) ?_
              rotate_left
              · intro w hSw; (try dsimp only at hSw); go_simp; try with_reducible rfl
              try simp only [Act.put, List.setIfInBounds_toArray, List.set_cons_zero, List.set_cons_succ]
              refine wpAnyG_take (i := 5) (oi := { dst := some 98, op := Op.nilCheck (Operand.tmp 97), type := 0, pos := "ticket.go:267", after := #[{ on := 4, ground := Ground.data }], guard := none }) (v := ?_) rfl (by kernel_rfl) (by kernel_rfl) (by kernel_rfl) (by decide) (by kernel_rfl) (by kernel_rfl) (fun _ _ _ h => h) (Or.inl ⟨by rfl, ?_⟩) (by assumption) ?_
              rotate_left
              · intro w hSw; (try dsimp only at hSw); go_simp; try with_reducible rfl
              try simp only [Act.put, List.setIfInBounds_toArray, List.set_cons_zero, List.set_cons_succ]
              refine wpAnyG_take (i := 6) (oi := { dst := some 99, op := Op.fieldAddr 37 (Operand.tmp 98) 3, type := 0, pos := "ticket.go:267", after := #[{ on := 5, ground := Ground.data }], guard := none }) (v := ?_) rfl (by kernel_rfl) (by kernel_rfl) (by kernel_rfl) (by decide) (by kernel_rfl) (by kernel_rfl) (fun _ _ _ h => h) (Or.inl ⟨by rfl, ?_⟩) (by assumption) ?_
              rotate_left
              · intro w hSw; (try dsimp only at hSw); go_simp; try with_reducible rfl
              try simp only [Act.put, List.setIfInBounds_toArray, List.set_cons_zero, List.set_cons_succ]
              refine wpAnyG_take (i := 7) (oi := { dst := some 100, op := Op.load 34 (Operand.tmp 99), type := 34, pos := "ticket.go:267", after := #[{ on := 6, ground := Ground.data }], guard := none }) (v := ?_) rfl (by kernel_rfl) (by kernel_rfl) (by kernel_rfl) (by decide) (by kernel_rfl) (by kernel_rfl) (fun _ _ _ h => h) (Or.inl ⟨by rfl, ?_⟩) (by assumption) ?_
              rotate_left
              · intro w hSw; (try dsimp only at hSw); go_simp; try with_reducible rfl
              try simp only [Act.put, List.setIfInBounds_toArray, List.set_cons_zero, List.set_cons_succ]
              refine wpAnyG_take (i := 8) (oi := { dst := some 101, op := Op.move (Operand.tmp 3), type := 34, pos := "ticket.go:267", after := #[], guard := none }) (v := ?_) rfl (by kernel_rfl) (by kernel_rfl) (by kernel_rfl) (by decide) (by kernel_rfl) (by kernel_rfl) (fun _ _ _ h => h) (Or.inl ⟨by rfl, ?_⟩) (by assumption) ?_
              rotate_left
              · intro w hSw; (try dsimp only at hSw); go_simp; try with_reducible rfl
              try simp only [Act.put, List.setIfInBounds_toArray, List.set_cons_zero, List.set_cons_succ]
              refine wpAnyG_take (i := 9) (oi := { dst := some 102, op := Op.build 96 #[(0, Operand.tmp 95), (1, Operand.tmp 96), (2, Operand.tmp 100), (3, Operand.tmp 101)], type := 96, pos := "ticket.go:267", after := #[{ on := 2, ground := Ground.data }, { on := 3, ground := Ground.data }, { on := 7, ground := Ground.data }, { on := 8, ground := Ground.data }], guard := none }) (v := ?_) rfl (by kernel_rfl) (by kernel_rfl) (by kernel_rfl) (by decide) (by kernel_rfl) (by kernel_rfl) (fun _ _ _ h => h) (Or.inl ⟨by rfl, ?_⟩) (by assumption) ?_
              rotate_left
              · intro w hSw; (try dsimp only at hSw); go_simp; try with_reducible rfl
              try simp only [Act.put, List.setIfInBounds_toArray, List.set_cons_zero, List.set_cons_succ]
              refine wpAnyG_one (i := 10) (o := { dst := some 103, op := Op.buildSlice 43 1 #[(0, Operand.tmp 102)], type := 43, pos := "ticket.go:267", after := #[{ on := 9, ground := Ground.data }], guard := none }) (by kernel_rfl) rfl (fun K hK => ?_)
              go_simp
              have hbn := (Below.refl w4.heap.size w4).alloc (Nat.le_refl _) (.cells #[.int .i64 on, .int .i64 ((k : Int) + 1), .int .i64 y.st, .int .i64 tq] 96 (0, 0))
              have HO1b := Lib.hid (recs_below HO1.out hbn)
              have HO2b := Lib.hid (recs_below HO2.out hbn)
              have HO3b := Lib.hid (recs_below HO3.out hbn)
              have HRb := Lib.hid ((hbn.block _ (block_lt HR.out)).trans HR.out)
              have HZb := Lib.hid ((hbn.block _ (block_lt HZ.out)).trans HZ.out)
              have HBb := Lib.hid (HB.out.trans (hbn.mono HB.out.size))
              have HNB := Lib.hid (new_rowW w4 (.cells #[.int .i64 on, .int .i64 ((k : Int) + 1), .int .i64 y.st, .int .i64 tq] 96 (0, 0)) _ rfl)
              clear hbn
              refine hK.out _ _ (.inl (HST.out _ HRb.out HO1b.out)) ?_
              clear hK K
              try simp only [Act.put, List.setIfInBounds_toArray, List.set_cons_zero, List.set_cons_succ]
              refine wpAnyG_one (i := 11) (o := { dst := some 104, op := Op.call { callee := Callee.builtin Builtin.append, args := #[Operand.tmp 94, Operand.tmp 103], argTypes := #[43, 43] }, type := 43, pos := "ticket.go:267", after := #[{ on := 1, ground := Ground.data }, { on := 10, ground := Ground.data }], guard := none }) (by kernel_rfl) rfl (fun K hK => ?_)
              refine step_append_recs elemEv rfl _ _ rfl w.heap.size _ nl t.hs rfl HO3b.out _ [⟨on, (k : Int) + 1, y.st, tq⟩] rfl (row_one (enc := Evt.cells) (x := ⟨on, (k : Int) + 1, y.st, tq⟩) HNB.out rfl Evt.cells_length (by decide)) (by have := HNLB.out; show nl + 1 ≤ _; omega) HBb.out.size ?_
              intro v5 w5 hown hg _
              rw [show nl + [(⟨on, (k : Int) + 1, y.st, tq⟩ : Evt)].length = nl + 1 from rfl] at hown
              have HOH := Lib.hid hown
              obtain ⟨q5, z5, rfl⟩ := rec_formT hown
              have HB5 := Lib.hid (HBb.out.grown hg HBb.out.size (fun b hb => (recs_base HO3b.out hb).1))
              have HR5 := Lib.hid ((hg.block _ (block_lt HRb.out) (fun e => own_neT HO3b.out HRb.out (by decide) _ e.symm rfl)).trans HRb.out)
              have HZ5 := Lib.hid ((hg.block _ (block_lt HZb.out) (fun e => own_neT HO3b.out HZb.out (by decide) _ e.symm rfl)).trans HZb.out)
              have HO15 := Lib.hid (own_apartT HO1b.out HO3b.out hg (by decide))
              have HO25 := Lib.hid (own_apartT HO2b.out HO3b.out hg (by decide))
              clear hown hg HO1b HO2b HO3b HRb HZb HBb HNB HB HR HZ HO1 HO2 HO3
              have kc := fun j => cell_of_row w5 w.heap.size j _ _ _ HR5.out
              have kf := fun j => frozen_of_row w5 w.heap.size j _ _ HR5.out
              refine hK.out _ _ (.inl (HST.out _ HR5.out HO15.out)) ?_
              clear hK K
              try simp only [Act.put, List.setIfInBounds_toArray, List.set_cons_zero, List.set_cons_succ]
              refine wpAnyG_one (i := 12) (o := { dst := some 105, op := Op.fieldAddr 45 (Operand.tmp 5) 10, type := 0, pos := "ticket.go:267", after := #[{ on := 0, ground := Ground.phase }, { on := 1, ground := Ground.phase }, { on := 2, ground := Ground.phase }, { on := 3, ground := Ground.phase }, { on := 4, ground := Ground.phase }, { on := 5, ground := Ground.phase }, { on := 6, ground := Ground.phase }, { on := 7, ground := Ground.phase }, { on := 8, ground := Ground.phase }, { on := 9, ground := Ground.phase }, { on := 10, ground := Ground.phase }, { on := 11, ground := Ground.phase }], guard := none }) (by kernel_rfl) rfl (fun K hK => ?_)
              go_simp
              refine hK.out _ _ (.inl (HST.out _ HR5.out HO15.out)) ?_
              clear hK K
              try simp only [Act.put, List.setIfInBounds_toArray, List.set_cons_zero, List.set_cons_succ]
              refine wpAnyG_one (i := 13) (o := { dst := none, op := Op.store 43 (Operand.tmp 105) (Operand.tmp 104), type := 0, pos := "ticket.go:267", after := #[{ on := 12, ground := Ground.data }, { on := 11, ground := Ground.data }, { on := 11, ground := Ground.chain }, { on := 0, ground := Ground.phase }, { on := 1, ground := Ground.phase }, { on := 2, ground := Ground.phase }, { on := 3, ground := Ground.phase }, { on := 4, ground := Ground.phase }, { on := 5, ground := Ground.phase }, { on := 6, ground := Ground.phase }, { on := 7, ground := Ground.phase }, { on := 8, ground := Ground.phase }, { on := 9, ground := Ground.phase }, { on := 10, ground := Ground.phase }, { on := 11, ground := Ground.phase }], guard := none }) (by kernel_rfl) rfl (fun K hK => ?_)
              go_simp
              refine hK.out _ _ (.inr rfl) ?_
              clear hK K
              try simp only [Act.put, List.setIfInBounds_toArray, List.set_cons_zero, List.set_cons_succ]
              refine wpAnyG_done (by kernel_rfl) ?_ _
              have HR6 : Hid ((w5.setCell ⟨w.heap.size, 10, none⟩ (.slice q5 (nl + 1) z5)).heap[w.heap.size]? = some (.cells #[.int .u64 t.num, .string t.loc, .int .i64 t.iss, .slice (some ⟨cb, 0, none⟩) t.cs.length z1, .slice q2 t.ts.length z2, .int .u64 t.prev, .int .u64 t.org, .int .u64 t.fst, .int .i64 t.vou, .int .i64 t.posts, .slice q5 (nl + 1) z5] 45 (0, 0))) := Lib.hid (heap_setCell_same _ _ 10 _ _ (.slice q5 (nl + 1) z5) HR5.out)
              have HON6 := Lib.hid ((Only.refl w.heap.size w5).setCell 10 (.slice q5 (nl + 1) z5))
              clear kc kf
              generalize w5.setCell ⟨w.heap.size, 10, none⟩ (.slice q5 (nl + 1) z5) = w6 at *
              have HZ6 := Lib.hid ((HON6.out.block _ (block_lt HZ5.out) (by omega)).trans HZ5.out)
              have HO1 := Lib.hid (recs_keep HO15.out (fun b hb hlt => HON6.out.block b hlt (own_neT HO15.out HR5.out (by decide) b hb)))
              have HO2 := Lib.hid (recs_keep HO25.out (fun b hb hlt => HON6.out.block b hlt (own_neT HO25.out HR5.out (by decide) b hb)))
              have HO3 := Lib.hid (recs_keep HOH.out (fun b hb hlt => HON6.out.block b hlt (own_neT HOH.out HR5.out (by decide) b hb)))
              have HB6 := Lib.hid (Only.below HB5.out (Nat.le_refl _) HB5.out.size HON6.out)
              clear HB5 HR5 HZ5 HO15 HO25 HOH HON6
              have HU0 : Hid (w6.ownsRow w.heap.size 37 6 (.slice (some ⟨cb, 0, none⟩) t.cs.length z1) t.cs.length (encL Cpn.cells (t.cs.set k y))) := Lib.hid (by rw [list_set_same HY.out]; exact HO1.out)
              have k3 : w6.cell? ⟨cb, k * 6 + 3, none⟩ = some (.int .i64 y.st) := (own_cellT Cpn.cells_length HO1.out HY.out (by decide : 3 < 6)).1
              have m3 : w6.frozen? ⟨cb, k * 6 + 3, none⟩ = false := (own_cellT Cpn.cells_length HO1.out HY.out (by decide : 3 < 6)).2
              clear h60b h60i hd1b hd2b hwr
              clear hHeld
              have k4 : w6.cell? ⟨cb, k * 6 + 4, none⟩ = some (.int .i64 y.ho) := (own_cellT Cpn.cells_length HO1.out HY.out (by decide : 4 < 6)).1
              have m4 : w6.frozen? ⟨cb, k * 6 + 4, none⟩ = false := (own_cellT Cpn.cells_length HO1.out HY.out (by decide : 4 < 6)).2
              have k5 : w6.cell? ⟨cb, k * 6 + 5, none⟩ = some (.int .u64 y.nx) := (own_cellT Cpn.cells_length HO1.out HY.out (by decide : 5 < 6)).1
              have m5 : w6.frozen? ⟨cb, k * 6 + 5, none⟩ = false := (own_cellT Cpn.cells_length HO1.out HY.out (by decide : 5 < 6)).2
              by_cases hq9 : tq = 9
              · subst hq9
                have hh : Tkt.holdB t.num wi = true := by have := HFI.out; rwa [Tkt.withB, if_pos rfl] at this
                have hwr2 : IntKind.i64.wrap wi = wi := by unfold Tkt.holdB at hh; simp at hh; rw [IntKind.wrap_i64]; omega
                go_upto_region 28 with fail
                have HU1 := Lib.hid (own_updT Cpn.cells_length (j := 3) (x' := ⟨y.fl, y.dy, y.va, 9, y.ho, y.nx⟩) HU0.out (List.getElem?_eq_some_iff.1 HY.out).1 (by decide) rfl)
                have HU2 := Lib.hid (own_updT Cpn.cells_length (j := 4) (x' := ⟨y.fl, y.dy, y.va, 9, 0, y.nx⟩) HU1.out (List.getElem?_eq_some_iff.1 HY.out).1 (by decide) rfl)
                have HU3 := Lib.hid (own_updT Cpn.cells_length (j := 5) (x' := ⟨y.fl, y.dy, y.va, 9, 0, 0⟩) HU2.out (List.getElem?_eq_some_iff.1 HY.out).1 (by decide) rfl)
                have HU4 := Lib.hid (own_updT Cpn.cells_length (j := 4) (x' := ⟨y.fl, y.dy, y.va, 9, wi, 0⟩) HU3.out (List.getElem?_eq_some_iff.1 HY.out).1 (by decide) rfl)
                have HON7 := Lib.hid (((((Only.refl cb w6).setCell (k * 6 + 3) (.int .i64 9)).setCell (k * 6 + 4) (.int .i64 0)).setCell (k * 6 + 5) (.int .u64 0)).setCell (k * 6 + 4) (.int .i64 wi))
                clear k3 k4 k5 m3 m4 m5
                generalize ((((w6.setCell ⟨cb, k * 6 + 3, none⟩ (.int .i64 9)).setCell ⟨cb, k * 6 + 4, none⟩ (.int .i64 0)).setCell ⟨cb, k * 6 + 5, none⟩ (.int .u64 0)).setCell ⟨cb, k * 6 + 4, none⟩ (.int .i64 wi)) = w7 at *
                have hcg : cb ≠ w.heap.size := own_neT HO1.out HR6.out (by decide) cb rfl
                have hcz : cb ≠ w.heap.size + 1 := own_neT HO1.out HZ6.out (by decide) cb rfl
                have HR7 := Lib.hid ((HON7.out.block _ (block_lt HR6.out) (Ne.symm hcg)).trans HR6.out)
                have HZ7 := Lib.hid ((HON7.out.block _ (block_lt HZ6.out) (Ne.symm hcz)).trans HZ6.out)
                have HP2 := Lib.hid (recs_keep HO2.out (fun b hb hlt => HON7.out.block b hlt (fun e => own_neT HO2.out (own_rowT HO1.out).choose_spec (by decide) b hb e)))
                have HP3 := Lib.hid (recs_keep HO3.out (fun b hb hlt => HON7.out.block b hlt (fun e => own_neT HO3.out (own_rowT HO1.out).choose_spec (by decide) b hb e)))
                have HB7 := Lib.hid (Only.below HB6.out (recs_base HO1.out rfl).1 HB6.out.size HON7.out)
                clear HON7 HO1 HO2 HO3 HR6 HZ6 HB6 HU0 HU1 HU2 HU3
                obtain ⟨f1, f2⟩ := row_loT 11 HR7.out rfl rfl
                have th := there_rowT (n := 11) HZ7.out rfl
                have h1n3 : ([.int .u64 t.num, .string t.loc, .int .i64 t.iss, .slice (some ⟨cb, 0, none⟩) t.cs.length z1, .slice q2 t.ts.length z2, .int .u64 t.prev, .int .u64 t.org, .int .u64 t.fst, .int .i64 t.vou, .int .i64 t.posts, .slice q5 (nl + 1) z5] : List Value).length = 11 := rfl
                have h1c3 : ([.int .u64 t.num, .string t.loc, .int .i64 t.iss, .slice (some ⟨cb, 0, none⟩) t.cs.length z1, .slice q2 t.ts.length z2, .int .u64 t.prev, .int .u64 t.org, .int .u64 t.fst, .int .i64 t.vou, .int .i64 t.posts, .slice q5 (nl + 1) z5] : List Value).all (·.oneCell') = true := rfl
                go_wp2
                have hr8 := setCells_rowT (g := w.heap.size + 1) (cs := [.int .u64 t.num, .string t.loc, .int .i64 t.iss, .slice (some ⟨cb, 0, none⟩) t.cs.length z1, .slice q2 t.ts.length z2, .int .u64 t.prev, .int .u64 t.org, .int .u64 t.fst, .int .i64 t.vou, .int .i64 t.posts, .slice q5 (nl + 1) z5]) HZ7.out rfl
                have hon8 := (Only.refl (w.heap.size + 1) w7).setCells 0 ([.int .u64 t.num, .string t.loc, .int .i64 t.iss, .slice (some ⟨cb, 0, none⟩) t.cs.length z1, .slice q2 t.ts.length z2, .int .u64 t.prev, .int .u64 t.org, .int .u64 t.fst, .int .i64 t.vou, .int .i64 t.posts, .slice q5 (nl + 1) z5])
                generalize w7.setCells (w.heap.size + 1) 0 ([.int .u64 t.num, .string t.loc, .int .i64 t.iss, .slice (some ⟨cb, 0, none⟩) t.cs.length z1, .slice q2 t.ts.length z2, .int .u64 t.prev, .int .u64 t.org, .int .u64 t.fst, .int .i64 t.vou, .int .i64 t.posts, .slice q5 (nl + 1) z5]) = w8 at *
                (try simp only [Exit.inBlock, Exit.then])
                refine bodyPost_ret (results_cellT2 rfl _ _ (w.heap.size + 1) rfl (loadTk hr8 rfl)) rfl ?_
                have h9 := HGOOD.out (by first | rfl | trivial)
                rw [Tkt.chg_ok HY.out] at h9
                have keep : ∀ {β : Type} {en : β → List Value} {nn m : Nat} {e : TypeId} {v : Value} {l : List β}, e ≠ 45 → w7.ownsRow w.heap.size e nn v m (encL en l) → w8.ownsRow w.heap.size e nn v m (encL en l) := fun hne ho => recs_keep ho (fun b hb hlt => hon8.block b hlt (own_neT ho HZ7.out hne b hb))
                have hnl1 : (t.hs ++ [(⟨on, (k : Int) + 1, y.st, 9⟩ : Evt)]).length = nl + 1 := by rw [List.length_append, HNL.out]; rfl
                subst h9
                refine ⟨⟨some ⟨cb, 0, none⟩, t.cs.length, z1⟩, ⟨q2, t.ts.length, z2⟩, ⟨q5, nl + 1, z5⟩, rfl, ?_, keep (by decide) HP2.out, ?_, Only.below HB7.out (by omega) HB7.out.size hon8⟩
                · rw [List.length_set]
                  have := keep (by decide) HU4.out
                  rwa [show (⟨y.fl, y.dy, y.va, 9, wi, 0⟩ : Cpn) = Tkt.chgC y 9 wi from rfl] at this
                · rw [hnl1]; exact keep (by decide) HP3.out
              · by_cases hq5 : tq = 5
                · subst hq5
                  go_upto_region 28 with fail
                  have HU1 := Lib.hid (own_updT Cpn.cells_length (j := 3) (x' := ⟨y.fl, y.dy, y.va, 5, y.ho, y.nx⟩) HU0.out (List.getElem?_eq_some_iff.1 HY.out).1 (by decide) rfl)
                  have HU2 := Lib.hid (own_updT Cpn.cells_length (j := 4) (x' := ⟨y.fl, y.dy, y.va, 5, 0, y.nx⟩) HU1.out (List.getElem?_eq_some_iff.1 HY.out).1 (by decide) rfl)
                  have HU3 := Lib.hid (own_updT Cpn.cells_length (j := 5) (x' := ⟨y.fl, y.dy, y.va, 5, 0, 0⟩) HU2.out (List.getElem?_eq_some_iff.1 HY.out).1 (by decide) rfl)
                  have HU4 := Lib.hid (own_updT Cpn.cells_length (j := 5) (x' := ⟨y.fl, y.dy, y.va, 5, 0, wi⟩) HU3.out (List.getElem?_eq_some_iff.1 HY.out).1 (by decide) rfl)
                  have HON7 := Lib.hid (((((Only.refl cb w6).setCell (k * 6 + 3) (.int .i64 5)).setCell (k * 6 + 4) (.int .i64 0)).setCell (k * 6 + 5) (.int .u64 0)).setCell (k * 6 + 5) (.int .u64 wi))
                  clear k3 k4 k5 m3 m4 m5
                  generalize ((((w6.setCell ⟨cb, k * 6 + 3, none⟩ (.int .i64 5)).setCell ⟨cb, k * 6 + 4, none⟩ (.int .i64 0)).setCell ⟨cb, k * 6 + 5, none⟩ (.int .u64 0)).setCell ⟨cb, k * 6 + 5, none⟩ (.int .u64 wi)) = w7 at *
                  have hcg : cb ≠ w.heap.size := own_neT HO1.out HR6.out (by decide) cb rfl
                  have hcz : cb ≠ w.heap.size + 1 := own_neT HO1.out HZ6.out (by decide) cb rfl
                  have HR7 := Lib.hid ((HON7.out.block _ (block_lt HR6.out) (Ne.symm hcg)).trans HR6.out)
                  have HZ7 := Lib.hid ((HON7.out.block _ (block_lt HZ6.out) (Ne.symm hcz)).trans HZ6.out)
                  have HP2 := Lib.hid (recs_keep HO2.out (fun b hb hlt => HON7.out.block b hlt (fun e => own_neT HO2.out (own_rowT HO1.out).choose_spec (by decide) b hb e)))
                  have HP3 := Lib.hid (recs_keep HO3.out (fun b hb hlt => HON7.out.block b hlt (fun e => own_neT HO3.out (own_rowT HO1.out).choose_spec (by decide) b hb e)))
                  have HB7 := Lib.hid (Only.below HB6.out (recs_base HO1.out rfl).1 HB6.out.size HON7.out)
                  clear HON7 HO1 HO2 HO3 HR6 HZ6 HB6 HU0 HU1 HU2 HU3
                  obtain ⟨f1, f2⟩ := row_loT 11 HR7.out rfl rfl
                  have th := there_rowT (n := 11) HZ7.out rfl
                  have h1n3 : ([.int .u64 t.num, .string t.loc, .int .i64 t.iss, .slice (some ⟨cb, 0, none⟩) t.cs.length z1, .slice q2 t.ts.length z2, .int .u64 t.prev, .int .u64 t.org, .int .u64 t.fst, .int .i64 t.vou, .int .i64 t.posts, .slice q5 (nl + 1) z5] : List Value).length = 11 := rfl
                  have h1c3 : ([.int .u64 t.num, .string t.loc, .int .i64 t.iss, .slice (some ⟨cb, 0, none⟩) t.cs.length z1, .slice q2 t.ts.length z2, .int .u64 t.prev, .int .u64 t.org, .int .u64 t.fst, .int .i64 t.vou, .int .i64 t.posts, .slice q5 (nl + 1) z5] : List Value).all (·.oneCell') = true := rfl
                  go_wp2
                  have hr8 := setCells_rowT (g := w.heap.size + 1) (cs := [.int .u64 t.num, .string t.loc, .int .i64 t.iss, .slice (some ⟨cb, 0, none⟩) t.cs.length z1, .slice q2 t.ts.length z2, .int .u64 t.prev, .int .u64 t.org, .int .u64 t.fst, .int .i64 t.vou, .int .i64 t.posts, .slice q5 (nl + 1) z5]) HZ7.out rfl
                  have hon8 := (Only.refl (w.heap.size + 1) w7).setCells 0 ([.int .u64 t.num, .string t.loc, .int .i64 t.iss, .slice (some ⟨cb, 0, none⟩) t.cs.length z1, .slice q2 t.ts.length z2, .int .u64 t.prev, .int .u64 t.org, .int .u64 t.fst, .int .i64 t.vou, .int .i64 t.posts, .slice q5 (nl + 1) z5])
                  generalize w7.setCells (w.heap.size + 1) 0 ([.int .u64 t.num, .string t.loc, .int .i64 t.iss, .slice (some ⟨cb, 0, none⟩) t.cs.length z1, .slice q2 t.ts.length z2, .int .u64 t.prev, .int .u64 t.org, .int .u64 t.fst, .int .i64 t.vou, .int .i64 t.posts, .slice q5 (nl + 1) z5]) = w8 at *
                  (try simp only [Exit.inBlock, Exit.then])
                  refine bodyPost_ret (results_cellT2 rfl _ _ (w.heap.size + 1) rfl (loadTk hr8 rfl)) rfl ?_
                  have h9 := HGOOD.out (by first | rfl | trivial)
                  rw [Tkt.chg_ok HY.out] at h9
                  have keep : ∀ {β : Type} {en : β → List Value} {nn m : Nat} {e : TypeId} {v : Value} {l : List β}, e ≠ 45 → w7.ownsRow w.heap.size e nn v m (encL en l) → w8.ownsRow w.heap.size e nn v m (encL en l) := fun hne ho => recs_keep ho (fun b hb hlt => hon8.block b hlt (own_neT ho HZ7.out hne b hb))
                  have hnl1 : (t.hs ++ [(⟨on, (k : Int) + 1, y.st, 5⟩ : Evt)]).length = nl + 1 := by rw [List.length_append, HNL.out]; rfl
                  subst h9
                  refine ⟨⟨some ⟨cb, 0, none⟩, t.cs.length, z1⟩, ⟨q2, t.ts.length, z2⟩, ⟨q5, nl + 1, z5⟩, rfl, ?_, keep (by decide) HP2.out, ?_, Only.below HB7.out (by omega) HB7.out.size hon8⟩
                  · rw [List.length_set]
                    have := keep (by decide) HU4.out
                    rwa [show (⟨y.fl, y.dy, y.va, 5, 0, wi⟩ : Cpn) = Tkt.chgC y 5 wi from rfl] at this
                  · rw [hnl1]; exact keep (by decide) HP3.out
                · have hcx : (⟨y.fl, y.dy, y.va, tq, 0, 0⟩ : Cpn) = Tkt.chgC y tq wi := by rw [Tkt.chgC, if_neg hq9, if_neg hq5]
                  have HCX := Lib.hid hcx
                  have hb9 : (tq == 9) = false := beq_eq_false_iff_ne.2 hq9
                  have hb5 : (tq == 5) = false := beq_eq_false_iff_ne.2 hq5
                  clear hcx hq9 hq5
                  go_upto_region 28 with fail
                  have HU1 := Lib.hid (own_updT Cpn.cells_length (j := 3) (x' := ⟨y.fl, y.dy, y.va, tq, y.ho, y.nx⟩) HU0.out (List.getElem?_eq_some_iff.1 HY.out).1 (by decide) rfl)
                  have HU2 := Lib.hid (own_updT Cpn.cells_length (j := 4) (x' := ⟨y.fl, y.dy, y.va, tq, 0, y.nx⟩) HU1.out (List.getElem?_eq_some_iff.1 HY.out).1 (by decide) rfl)
                  have HU3 := Lib.hid (own_updT Cpn.cells_length (j := 5) (x' := ⟨y.fl, y.dy, y.va, tq, 0, 0⟩) HU2.out (List.getElem?_eq_some_iff.1 HY.out).1 (by decide) rfl)
                  have HON7 := Lib.hid ((((Only.refl cb w6).setCell (k * 6 + 3) (.int .i64 tq)).setCell (k * 6 + 4) (.int .i64 0)).setCell (k * 6 + 5) (.int .u64 0))
                  clear k3 k4 k5 m3 m4 m5
                  generalize (((w6.setCell ⟨cb, k * 6 + 3, none⟩ (.int .i64 tq)).setCell ⟨cb, k * 6 + 4, none⟩ (.int .i64 0)).setCell ⟨cb, k * 6 + 5, none⟩ (.int .u64 0)) = w7 at *
                  have hcg : cb ≠ w.heap.size := own_neT HO1.out HR6.out (by decide) cb rfl
                  have hcz : cb ≠ w.heap.size + 1 := own_neT HO1.out HZ6.out (by decide) cb rfl
                  have HR7 := Lib.hid ((HON7.out.block _ (block_lt HR6.out) (Ne.symm hcg)).trans HR6.out)
                  have HZ7 := Lib.hid ((HON7.out.block _ (block_lt HZ6.out) (Ne.symm hcz)).trans HZ6.out)
                  have HP2 := Lib.hid (recs_keep HO2.out (fun b hb hlt => HON7.out.block b hlt (fun e => own_neT HO2.out (own_rowT HO1.out).choose_spec (by decide) b hb e)))
                  have HP3 := Lib.hid (recs_keep HO3.out (fun b hb hlt => HON7.out.block b hlt (fun e => own_neT HO3.out (own_rowT HO1.out).choose_spec (by decide) b hb e)))
                  have HB7 := Lib.hid (Only.below HB6.out (recs_base HO1.out rfl).1 HB6.out.size HON7.out)
                  clear HON7 HO1 HO2 HO3 HR6 HZ6 HB6 HU0 HU1 HU2
                  obtain ⟨f1, f2⟩ := row_loT 11 HR7.out rfl rfl
                  have th := there_rowT (n := 11) HZ7.out rfl
                  have h1n3 : ([.int .u64 t.num, .string t.loc, .int .i64 t.iss, .slice (some ⟨cb, 0, none⟩) t.cs.length z1, .slice q2 t.ts.length z2, .int .u64 t.prev, .int .u64 t.org, .int .u64 t.fst, .int .i64 t.vou, .int .i64 t.posts, .slice q5 (nl + 1) z5] : List Value).length = 11 := rfl
                  have h1c3 : ([.int .u64 t.num, .string t.loc, .int .i64 t.iss, .slice (some ⟨cb, 0, none⟩) t.cs.length z1, .slice q2 t.ts.length z2, .int .u64 t.prev, .int .u64 t.org, .int .u64 t.fst, .int .i64 t.vou, .int .i64 t.posts, .slice q5 (nl + 1) z5] : List Value).all (·.oneCell') = true := rfl
                  go_wp2
                  have hr8 := setCells_rowT (g := w.heap.size + 1) (cs := [.int .u64 t.num, .string t.loc, .int .i64 t.iss, .slice (some ⟨cb, 0, none⟩) t.cs.length z1, .slice q2 t.ts.length z2, .int .u64 t.prev, .int .u64 t.org, .int .u64 t.fst, .int .i64 t.vou, .int .i64 t.posts, .slice q5 (nl + 1) z5]) HZ7.out rfl
                  have hon8 := (Only.refl (w.heap.size + 1) w7).setCells 0 ([.int .u64 t.num, .string t.loc, .int .i64 t.iss, .slice (some ⟨cb, 0, none⟩) t.cs.length z1, .slice q2 t.ts.length z2, .int .u64 t.prev, .int .u64 t.org, .int .u64 t.fst, .int .i64 t.vou, .int .i64 t.posts, .slice q5 (nl + 1) z5])
                  generalize w7.setCells (w.heap.size + 1) 0 ([.int .u64 t.num, .string t.loc, .int .i64 t.iss, .slice (some ⟨cb, 0, none⟩) t.cs.length z1, .slice q2 t.ts.length z2, .int .u64 t.prev, .int .u64 t.org, .int .u64 t.fst, .int .i64 t.vou, .int .i64 t.posts, .slice q5 (nl + 1) z5]) = w8 at *
                  (try simp only [Exit.inBlock, Exit.then])
                  refine bodyPost_ret (results_cellT2 rfl _ _ (w.heap.size + 1) rfl (loadTk hr8 rfl)) rfl ?_
                  have h9 := HGOOD.out (by first | rfl | trivial)
                  rw [Tkt.chg_ok HY.out] at h9
                  have keep : ∀ {β : Type} {en : β → List Value} {nn m : Nat} {e : TypeId} {v : Value} {l : List β}, e ≠ 45 → w7.ownsRow w.heap.size e nn v m (encL en l) → w8.ownsRow w.heap.size e nn v m (encL en l) := fun hne ho => recs_keep ho (fun b hb hlt => hon8.block b hlt (own_neT ho HZ7.out hne b hb))
                  have hnl1 : (t.hs ++ [(⟨on, (k : Int) + 1, y.st, tq⟩ : Evt)]).length = nl + 1 := by rw [List.length_append, HNL.out]; rfl
                  subst h9
                  refine ⟨⟨some ⟨cb, 0, none⟩, t.cs.length, z1⟩, ⟨q2, t.ts.length, z2⟩, ⟨q5, nl + 1, z5⟩, rfl, ?_, keep (by decide) HP2.out, ?_, Only.below HB7.out (by omega) HB7.out.size hon8⟩
                  · rw [List.length_set]
                    have := keep (by decide) HU3.out
                    rwa [HCX.out] at this
                  · rw [hnl1]; exact keep (by decide) HP3.out
          · rw [if_neg hd] at HEO
            obtain rfl := HEO.out
            have hd3 : on < ld ∨ (ld ≤ on ∧ 1000000 < on) := by omega
            clear hd
            rcases hd3 with hd1 | ⟨hd1, hd2⟩
            all_goals
              go_wp2_with (go_at_call 43; refine (HLD.out _).mono ?_; rintro e wn ⟨rfl, rfl⟩)
              (try simp only [Exit.inBlock, Exit.then])
              have hr6 := setCells_rowT (g := w.heap.size + 1) (cs := [.int .u64 0, .string ⟨#[]⟩, .int .i64 0, .slice none 0 0, .slice none 0 0, .int .u64 0, .int .u64 0, .int .u64 0, .int .i64 0, .int .i64 0, .slice none 0 0]) HZ.out rfl
              refine bodyPost_ret (results_cellT2 rfl _ _ (w.heap.size + 1) rfl (loadTk hr6 rfl)) rfl ?_
              obtain rfl := HBAD.out (by decide)
              exact ⟨⟨none, 0, 0⟩, ⟨none, 0, 0⟩, ⟨none, 0, 0⟩, rfl, World.ownsRow_nil _ _ _ _, World.ownsRow_nil _ _ _ _, World.ownsRow_nil _ _ _ _, Only.below HB.out (by omega) HB.out.size ((Only.refl (w.heap.size + 1) _).setCells 0 _)⟩
        · have hl2 : Tkt.leadsB y.st tq = false := by simpa using hl
          rw [hl2] at HLD
          rw [if_neg hl] at HEO
          obtain rfl := HEO.out
          clear hl hl2
          go_wp2_with (go_at_call 43; refine (HLD.out _).mono ?_; rintro e wn ⟨rfl, rfl⟩)
          (try simp only [Exit.inBlock, Exit.then])
          have hr6 := setCells_rowT (g := w.heap.size + 1) (cs := [.int .u64 0, .string ⟨#[]⟩, .int .i64 0, .slice none 0 0, .slice none 0 0, .int .u64 0, .int .u64 0, .int .u64 0, .int .i64 0, .int .i64 0, .slice none 0 0]) HZ.out rfl
          refine bodyPost_ret (results_cellT2 rfl _ _ (w.heap.size + 1) rfl (loadTk hr6 rfl)) rfl ?_
          obtain rfl := HBAD.out (by decide)
          exact ⟨⟨none, 0, 0⟩, ⟨none, 0, 0⟩, ⟨none, 0, 0⟩, rfl, World.ownsRow_nil _ _ _ _, World.ownsRow_nil _ _ _ _, World.ownsRow_nil _ _ _ _, Only.below HB.out (by omega) HB.out.size ((Only.refl (w.heap.size + 1) _).setCells 0 _)⟩
    · have hE : er = 2 := by
        rw [← HER.out, Tkt.errC, if_neg]
        rintro ⟨g1, g2, g3, g4⟩
        exact hok ⟨by rw [← HMB.out]; exact g1, g2, by have := HN3.out; omega, by rw [← HFI.out]; exact g4⟩
      subst hE
      have hok2 : mb = false ∨ (mb = true ∧ co < 1) ∨ (mb = true ∧ 1 ≤ co ∧ (c.n : Int) < co) ∨ (mb = true ∧ 1 ≤ co ∧ co ≤ c.n ∧ fits = false) := by
        rcases Int.lt_or_le co 1 with g1 | g1 <;> rcases Int.lt_or_le c.n co with g2 | g2 <;> cases mb <;> cases fits <;> simp_all
      clear hok
      rcases hok2 with rfl | ⟨rfl, hx1⟩ | ⟨rfl, hx1, hx2⟩ | ⟨rfl, hx1, hx2, rfl⟩
      all_goals
        go_wp2_with (go_at_call 60; refine (HM.out _ HB.out).mono ?_; rintro e wn ⟨rfl, hbn⟩; have HB := Lib.hid (HB.out.trans (hbn.mono HB.out.size)); have HR := Lib.hid ((hbn.block _ (block_lt HR.out)).trans HR.out); have HZ := Lib.hid ((hbn.block _ (block_lt HZ.out)).trans HZ.out); have hc := fun j => cell_of_row _ w.heap.size j _ _ _ HR.out; obtain ⟨f1, f2⟩ := row_loT 11 HR.out rfl rfl; have th := there_rowT (n := 11) HZ.out rfl; clear hbn)
        (try simp only [Exit.inBlock, Exit.then])
        have hr6 := setCells_rowT (g := w.heap.size + 1) (cs := [.int .u64 0, .string ⟨#[]⟩, .int .i64 0, .slice none 0 0, .slice none 0 0, .int .u64 0, .int .u64 0, .int .u64 0, .int .i64 0, .int .i64 0, .slice none 0 0]) HZ.out rfl
        refine bodyPost_ret (results_cellT2 rfl _ _ (w.heap.size + 1) rfl (loadTk hr6 rfl)) rfl ?_
        obtain rfl := HBAD.out (by decide)
        exact ⟨⟨none, 0, 0⟩, ⟨none, 0, 0⟩, ⟨none, 0, 0⟩, rfl, World.ownsRow_nil _ _ _ _, World.ownsRow_nil _ _ _ _, World.ownsRow_nil _ _ _ _, Only.below HB.out (by omega) HB.out.size ((Only.refl (w.heap.size + 1) _).setCells 0 _)⟩
end Go.Proofs.Ytadabjkhiaidcaa
