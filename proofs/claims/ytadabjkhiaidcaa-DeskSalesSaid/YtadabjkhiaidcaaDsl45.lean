/- Contract: desk.Exchange whole. -/
import Derived.Test.YtadabjkhiaidcaaDsl44

set_option linter.unusedVariables false
set_option linter.unusedSimpArgs false
namespace Go.Proofs.Ytadabjkhiaidcaa
open Go.ChangeShapes Go.WideShapes Go.ChangeAt Go.RowKit Go.Deep

attribute [local go_sem ↓] Tk_execLoad Tk_execStore

attribute [local go_sem] Tk_load Tk_store loL_drew okL_drew there_sc World.there_drew

/-- what an exchange makes -/
def Dk.xchT (t : Tk) (n on vou : Int) (fl : List Cpn) (xs : List Txx) : Tk := ⟨n, t.loc, on, fl.map Dk.soldC, xs, t.num, t.org, n, vou, 1, []⟩
def Dk.needX (t : Tk) (pen : Int) (fl : List Cpn) (xs : List Txx) : Int := Dk.valN [1] (fl.map Dk.soldC) + Tkt.taxI xs + pen - Dk.valN [1] t.cs - Dk.freeN [1] t
def Dk.exchP (t : Tk) (pen on n : Int) (fl : List Cpn) (xs : List Txx) : Pst := ⟨on, n, 1, 5, if 0 < Dk.needX t pen fl xs then Dk.needX t pen fl xs else 0, Dk.valN [1] t.cs - Dk.valN [1] (fl.map Dk.soldC), 0, Dk.freeN [1] t - Tkt.taxI xs, -pen, if 0 < Dk.needX t pen fl xs then 0 else Dk.needX t pen fl xs⟩
def Dk.exchD (t : Tk) (pen on n : Int) (fl : List Cpn) (xs : List Txx) : List Tk × List Pst × Int :=
  if Dk.xargB t pen on n fl xs = false then ([], [], 2)
  else if ¬ Dk.openE t on = 0 ∨ Dk.goesB (fl.map Dk.soldC) on = false then ([], [], 15)
  else if t.cs.any (Dk.selOpen 0) = false then ([], [], 9)
  else if ¬ (Dk.chgD Dk.selOpen on 5 n t).2 = 0 then ([], [], (Dk.chgD Dk.selOpen on 5 n t).2)
  else ([(Dk.chgD Dk.selOpen on 5 n t).1, Dk.xchT t n on (if 0 < Dk.needX t pen fl xs then 0 else -Dk.needX t pen fl xs) fl xs], [Dk.exchP t pen on n fl xs], 0)
/-- two tickets, a posting, an error: as they come out -/
def Dk.ResT (R : List Tk × List Pst × Int) (w : World) (e : Ending) (w' : World) : Prop := ∃ (v1 v2 : Value) (rs : List Tkr), e = .returned (.tuple #[v1, v2, .int .i64 R.2.2]) ∧ TL w' v1 rs ∧ rs.map Tkr.t = R.1 ∧ LS Pst.cells 10 w' v2 R.2.1 ∧ Below w.heap.size w w'
theorem Dk.xchT_wf {t : Tk} {n on vou : Int} {fl : List Cpn} {xs : List Txx} (h : t.wf) (hn : U64 n) (ho : I64 on) (hv : I64 vou) (hc : ∀ y ∈ fl, y.wf) (hx : ∀ y ∈ xs, y.wf) : (Dk.xchT t n on vou fl xs).wf := by
  refine ⟨hn, h.loc, ho, fun y hy => ?_, hx, h.num, h.org, hn, hv, (show I64 (1 : Int) from ⟨by decide, by decide⟩), fun y hy => by cases hy⟩
  obtain ⟨z, hz, rfl⟩ := List.mem_map.1 hy
  have hw := hc z hz
  exact ⟨hw.1, hw.2.1, hw.2.2.1, (show I64 (1 : Int) from ⟨by decide, by decide⟩), (show I64 (0 : Int) from ⟨by decide, by decide⟩), (show U64 (0 : Int) from ⟨by decide, by decide⟩)⟩
theorem Dk.openE_cases {t : Tk} {on : Int} (h : ¬ Dk.openE t on = 2) : Tkt.mayB t = true ∧ (Dk.openE t on = 0 ∨ Dk.openE t on = 15) := by
  unfold Dk.openE at h ⊢
  by_cases h1 : (Tkt.mayB t && Tkt.dayB on) = true
  · rw [if_pos h1]
    refine ⟨by simp at h1; exact h1.1, ?_⟩
    split
    · exact .inr rfl
    · exact .inl rfl
  · rw [if_neg h1] at h
    exact absurd rfl h
set_option maxRecDepth 8000 in
set_option maxHeartbeats 16000000 in
theorem dexch_ok (t : Tk) (c x h : Sl) (pen on n : Int) (fl : List Cpn) (pf : Option Addr) (nf cf : Nat) (xs : List Txx) (px : Option Addr) (nx cx : Nat) (hon : I64 on) (hn : U64 n) (w : World) (ts : TS w t c x h) (hf : LS Cpn.cells 6 w (.slice pf nf cf) fl) (hx : LS Txx.cells 2 w (.slice px nx cx) xs) (hnf : nf ≤ 1000) (hwx : ∀ y ∈ xs, y.wf) (hwc : ∀ y ∈ fl, y.wf) (hgood : Dk.xargB t pen on n fl xs = true) : Calls Try.prog 17 #[.agg #[.int .u64 t.num, .string t.loc, .int .i64 t.iss, .slice c.p c.n c.c, .slice x.p x.n x.c, .int .u64 t.prev, .int .u64 t.org, .int .u64 t.fst, .int .i64 t.vou, .int .i64 t.posts, .slice h.p h.n h.c], .int .i64 pen, .int .i64 on, .int .u64 n, .slice pf nf cf, .slice px nx cx] w (Dk.ResT (Dk.exchD t pen on n fl xs) w) := by
  obtain ⟨R, hR⟩ : ∃ R, Dk.exchD t pen on n fl xs = R := ⟨_, rfl⟩
  rw [hR]
  have HRV := Lib.hid hR
  have HGD := Lib.hid hgood; have HON := Lib.hid hon; have HUN := Lib.hid hn; have HWX := Lib.hid hwx; have HWC := Lib.hid hwc
  clear hgood hR hwx hwc
  have HTT := Lib.hid ts; have HF := Lib.hid hf; have HX := Lib.hid hx
  have hn0 := hn.1; have hn9 : n ≤ 18446744073709551615 := by have := hn.2; omega
  have ht0 := ts.wf.num.1; have ht9 : t.num ≤ 18446744073709551615 := by have := ts.wf.num.2; omega
  obtain ⟨E, hE⟩ : ∃ E, Dk.openE t on = E := ⟨_, rfl⟩
  have HE := Lib.hid hE
  have HOP := Lib.hid (fun W ts => dopen_any t c x h on W ts)
  rw [hE] at HOP
  have hb0 := (Below.refl w.heap.size w).alloc (Nat.le_refl _) (.cells #[.int .u64 t.num, .string t.loc, .int .i64 t.iss, .slice c.p c.n c.c, .slice x.p x.n x.c, .int .u64 t.prev, .int .u64 t.org, .int .u64 t.fst, .int .i64 t.vou, .int .i64 t.posts, .slice h.p h.n h.c] 45 (0, 0))
  have hr0 := new_rowW w (.cells #[.int .u64 t.num, .string t.loc, .int .i64 t.iss, .slice c.p c.n c.c, .slice x.p x.n x.c, .int .u64 t.prev, .int .u64 t.org, .int .u64 t.fst, .int .i64 t.vou, .int .i64 t.posts, .slice h.p h.n h.c] 45 (0, 0)) _ rfl
  have HTS := Lib.hid (ts.below hb0); have HFS := Lib.hid (hf.below hb0); have HXS := Lib.hid (hx.below hb0)
  have HB0 := Lib.hid hb0; have HR0 := Lib.hid hr0
  obtain ⟨f1, f2⟩ := row_loT 11 hr0 rfl rfl
  have HRW := Lib.hid (fun W hl => drow_any fl pf nf cf 4 W hl hnf)
  clear ts hf hx hon hn hE hb0 hr0 hnf
  go_enter Try.func17, Try.ntmps17
  go_wp2_with fail
  clear f1 f2
  generalize w.alloc (.cells #[.int .u64 t.num, .string t.loc, .int .i64 t.iss, .slice c.p c.n c.c, .slice x.p x.n x.c, .int .u64 t.prev, .int .u64 t.org, .int .u64 t.fst, .int .i64 t.vou, .int .i64 t.posts, .slice h.p h.n h.c] 45 (0, 0)) = W0 at *
  refine (HOP.out W0 HTS.out).mono ?_
  rintro e w1 ⟨rfl, hb1⟩
  have HBB := Lib.hid hb1
  have HR0 := Lib.hid ((HBB.out.block _ (block_lt HR0.out)).trans HR0.out); have HB0 := Lib.hid (HB0.out.trans (HBB.out.mono HB0.out.size))
  have HTS := Lib.hid (HTS.out.below HBB.out); have HFS := Lib.hid (HFS.out.below HBB.out); have HXS := Lib.hid (HXS.out.below HBB.out)
  clear hb1 HOP HBB
  go_wp2_with fail
  refine (HRW.out w1 HFS.out).mono ?_
  rintro e w2 ⟨v, rfl, hown, hb2⟩
  have HBB := Lib.hid hb2
  have HOW := Lib.hid hown
  have HR0 := Lib.hid ((HBB.out.block _ (block_lt HR0.out)).trans HR0.out); have HB0 := Lib.hid (HB0.out.trans (HBB.out.mono HB0.out.size))
  have HTS := Lib.hid (HTS.out.below HBB.out); have HFS := Lib.hid (HFS.out.below HBB.out); have HXS := Lib.hid (HXS.out.below HBB.out)
  clear hb2 HBB HRW hown
  go_upto_region 3 with fail
  have HPN := Lib.hid (fun W => damount_any pen W)
  have HTX := Lib.hid (fun W hl => dtaxed_any xs px nx cx W hl)
  have HCK := Lib.hid (fun W => check_any n hn0 hn9 W)
  have HC1 := Lib.hid (fun W => carrier_any n hn0 hn9 W)
  have HC2 := Lib.hid (fun W => carrier_any t.num ht0 ht9 W)
  obtain ⟨q0, hq0⟩ : ∃ q, (E == 2) = q := ⟨_, rfl⟩
  obtain ⟨q1, hq1⟩ : ∃ q, Tkt.someB pen = q := ⟨_, rfl⟩
  obtain ⟨q2, hq2⟩ : ∃ q, Dk.rowB fl 4 = q := ⟨_, rfl⟩
  obtain ⟨q3, hq3⟩ : ∃ q, Dk.taxedB xs = q := ⟨_, rfl⟩
  obtain ⟨ck, hck⟩ : ∃ k, Num.check n = k := ⟨_, rfl⟩
  obtain ⟨q4, hq4⟩ : ∃ q, (ck != 0) = q := ⟨_, rfl⟩
  obtain ⟨q5, hq5⟩ : ∃ q, (n == t.num) = q := ⟨_, rfl⟩
  obtain ⟨c1, hc1⟩ : ∃ k, Num.carr n = k := ⟨_, rfl⟩
  obtain ⟨c2, hc2⟩ : ∃ k, Num.carr t.num = k := ⟨_, rfl⟩
  obtain ⟨q6, hq6⟩ : ∃ q, (c1 != c2) = q := ⟨_, rfl⟩
  obtain ⟨q7, hq7⟩ : ∃ q, (n == t.org) = q := ⟨_, rfl⟩
  rw [hq1] at HPN; rw [hq3] at HTX; rw [hck] at HCK; rw [hc1] at HC1; rw [hc2] at HC2; rw [hq2] at HOW
  simp only [hq2]
  have kr := fun (u : Later w2) (j : Nat) => (u.cell w.heap.size j (block_lt HR0.out)).trans (cell_of_row w2 w.heap.size j _ _ _ HR0.out)
  have HQ : Hid ((!q0 && (q1 && (q2 && (q3 && (!q4 && (!q5 && (!q6 && !q7))))))) = true) := Lib.hid (by
    have h := HGD.out
    unfold Dk.xargB at h
    rw [HE.out, hq0, hq1, hq2, hq3, hck, hq4, hq5, hc1, hc2, hq6, hq7] at h
    exact h)
  have HSB := Lib.hid hq1; have HRB := Lib.hid hq2; have HTB := Lib.hid hq3
  have HEQ := Lib.hid hq0
  have h8 := HQ.out
  simp only [Bool.and_eq_true, Bool.not_eq_true'] at h8
  obtain ⟨rfl, rfl, rfl, rfl, rfl, rfl, rfl, rfl⟩ := h8
  have HNE : Hid (¬ E = 2) := Lib.hid (fun h => by rw [h] at hq0; cases hq0)
  have HOW2 := Lib.hid (HOW.out rfl)
  clear HOW
  have HOW := HOW2
  clear HOW2
  clear hq1 hq2 hq3 hck hc1 hc2 HQ
  refine wp_region_later (by kernel_rfl) (by kernel_rfl) ?_
  repeat (go_big_quiet_step (first | (go_at_call 51; exact later_same (HPN.out _)) | (go_at_call 22; exact later_call (HTX.out _ (HXS.out.below (Later.prop _)))) | (go_at_call 55; exact later_same (HCK.out _)) | (go_at_call 56; first | with_reducible exact later_same (HC1.out _) | with_reducible exact later_same (HC2.out _))))
  refine wpQuiet_nil ?_
  rintro w3 ⟨u, rfl⟩
  have HF3 := Lib.hid (HB0.out.trans (u.prop.mono HB0.out.size))
  have HBB := Lib.hid u.prop
  clear kr HF3
  generalize u.val = w3 at *
  have HOW3 := Lib.hid (recs_below HOW.out HBB.out)
  clear HOW
  have HOW := HOW3
  clear HOW3
  have HR0 := Lib.hid ((HBB.out.block _ (block_lt HR0.out)).trans HR0.out); have HB0 := Lib.hid (HB0.out.trans (HBB.out.mono HB0.out.size))
  have HTS := Lib.hid (HTS.out.below HBB.out); have HFS := Lib.hid (HFS.out.below HBB.out); have HXS := Lib.hid (HXS.out.below HBB.out)
  clear HBB HPN HTX HCK HC1 HC2
  obtain ⟨q', k', c', rfl⟩ : ∃ p k c, v = .slice p k c := by obtain ⟨p, c, e⟩ := (LS.of_own HOW.out Cpn.cells_length (by decide)).shape; exact ⟨_, _, _, e⟩
  have HCS := Lib.hid (Dk.openE_cases (t := t) (on := on) (by rw [HE.out]; exact HNE.out))
  have HMA := Lib.hid (Dk.may_amounts HCS.out.1)
  have HLN := Lib.hid (Tkt.mayB_lens HCS.out.1)
  have hcase := HCS.out.2
  rw [HE.out] at hcase
  rcases hcase with rfl | rfl
  · obtain ⟨qg, hqg⟩ : ∃ q, Dk.goesB (fl.map Dk.soldC) on = q := ⟨_, rfl⟩
    have HGO := Lib.hid (dgoes_any (fl.map Dk.soldC) q' k' c' on w3 (LS.of_own HOW.out Cpn.cells_length (by decide)))
    rw [hqg] at HGO
    have HQG := Lib.hid hqg
    clear hqg
    go_wp2_with fail
    refine HGO.out.mono ?_
    rintro e w4 ⟨rfl, hb4⟩
    have HBB := Lib.hid hb4
    have HOW := Lib.hid (recs_below HOW.out hb4)
    have HR0 := Lib.hid ((HBB.out.block _ (block_lt HR0.out)).trans HR0.out); have HB0 := Lib.hid (HB0.out.trans (HBB.out.mono HB0.out.size))
    have HTS := Lib.hid (HTS.out.below HBB.out); have HFS := Lib.hid (HFS.out.below HBB.out); have HXS := Lib.hid (HXS.out.below HBB.out)
    clear hb4 HBB HGO
    cases qg
    · have HR2 : Hid (R = ([], [], 15)) := Lib.hid (by rw [← HRV.out]; unfold Dk.exchD; rw [if_neg (by rw [HGD.out]; decide), if_pos (.inr HQG.out)])
      go_wp2
      refine bodyPost_ret (v := .tuple #[.slice none 0 0, .slice none 0 0, .int .i64 15]) (by simp [results, Try.results17, go_sem]) rfl ?_
      rw [HR2.out]
      unfold Dk.ResT
      exact ⟨.slice none 0 0, .slice none 0 0, [], rfl, ⟨LS.nil _, fun y hy => by cases hy⟩, rfl, LS.nil _, HB0.out⟩
    · obtain ⟨bq, hbq⟩ : ∃ bq, t.cs.any (Dk.selOpen 0) = bq := ⟨_, rfl⟩
      have HBQ := Lib.hid hbq
      have HHB := Lib.hid (hasOpen_any t.cs (Dk.selOpen 0) bq (by rw [← hbq]; simp only [List.any_eq_true]) c.p c.n c.c w4 HTS.out.cs (fun y _ W hW => dexch1_any y W))
      have kc := fun j => cell_of_row w4 w.heap.size j _ _ _ HR0.out
      clear hbq
      go_wp2_with fail
      clear kc
      refine HHB.out.mono ?_
      rintro e w5 ⟨rfl, hb5⟩
      have HBB := Lib.hid hb5
      have HOW := Lib.hid (recs_below HOW.out hb5)
      have HR0 := Lib.hid ((HBB.out.block _ (block_lt HR0.out)).trans HR0.out); have HB0 := Lib.hid (HB0.out.trans (HBB.out.mono HB0.out.size))
      have HTS := Lib.hid (HTS.out.below HBB.out); have HFS := Lib.hid (HFS.out.below HBB.out); have HXS := Lib.hid (HXS.out.below HBB.out)
      clear hb5 HBB HHB
      cases bq
      · have HR2 : Hid (R = ([], [], 9)) := Lib.hid (by rw [← HRV.out]; unfold Dk.exchD; rw [if_neg (by rw [HGD.out]; decide), if_neg (by rw [HE.out, HQG.out]; decide), if_pos HBQ.out])
        go_wp2
        refine bodyPost_ret (v := .tuple #[.slice none 0 0, .slice none 0 0, .int .i64 9]) (by simp [results, Try.results17, go_sem]) rfl ?_
        rw [HR2.out]
        unfold Dk.ResT
        exact ⟨.slice none 0 0, .slice none 0 0, [], rfl, ⟨LS.nil _, fun y hy => by cases hy⟩, rfl, LS.nil _, HB0.out⟩
      · obtain ⟨⟨tc, ec⟩, hrc⟩ : ∃ r, Dk.chgD Dk.selOpen on 5 n t = r := ⟨_, rfl⟩
        have HCH := Lib.hid (dchOpen_any t c x h on 5 n HON.out HUN.out w5 HTS.out ⟨by have := HLN.out.2.1; omega, by have := HLN.out.2.2.2; omega⟩)
        rw [hrc] at HCH
        have HRC := Lib.hid hrc
        obtain ⟨f1, f2⟩ := row_loT 11 HR0.out rfl rfl
        clear hrc
        go_wp2_with fail
        clear f1 f2
        refine HCH.out.mono ?_
        rintro e w6 ⟨⟨a1, k1, b1⟩, ⟨a2, k2, b2⟩, ⟨a3, k3, b3⟩, rfl, ts2, hb6, hfr⟩
        have HT2 := Lib.hid ts2; have HBB := Lib.hid hb6
        have HOW := Lib.hid (recs_below HOW.out hb6)
        clear ts2 hb6 hfr HCH
        have HR0 := Lib.hid ((HBB.out.block _ (block_lt HR0.out)).trans HR0.out); have HB0 := Lib.hid (HB0.out.trans (HBB.out.mono HB0.out.size))
        have HTS := Lib.hid (HTS.out.below HBB.out); have HFS := Lib.hid (HFS.out.below HBB.out); have HXS := Lib.hid (HXS.out.below HBB.out)
        clear HBB
        have th := there_newT (w := w6) (zs := [.int .u64 0, .string ⟨#[]⟩, .int .i64 0, .slice none 0 0, .slice none 0 0, .int .u64 0, .int .u64 0, .int .u64 0, .int .i64 0, .int .i64 0, .slice none 0 0]) (e := 45 ) (n := 11) rfl
        have h1n : ([.int .u64 tc.num, .string tc.loc, .int .i64 tc.iss, .slice a1 k1 b1, .slice a2 k2 b2, .int .u64 tc.prev, .int .u64 tc.org, .int .u64 tc.fst, .int .i64 tc.vou, .int .i64 tc.posts, .slice a3 k3 b3] : List Value).length = 11 := rfl
        have h1c : ([.int .u64 tc.num, .string tc.loc, .int .i64 tc.iss, .slice a1 k1 b1, .slice a2 k2 b2, .int .u64 tc.prev, .int .u64 tc.org, .int .u64 tc.fst, .int .i64 tc.vou, .int .i64 tc.posts, .slice a3 k3 b3] : List Value).all (·.oneCell') = true := rfl
        have HP := Lib.hid (putTk (W := w6) (cs := [.int .u64 tc.num, .string tc.loc, .int .i64 tc.iss, .slice a1 k1 b1, .slice a2 k2 b2, .int .u64 tc.prev, .int .u64 tc.org, .int .u64 tc.fst, .int .i64 tc.vou, .int .i64 tc.posts, .slice a3 k3 b3]) rfl)
        by_cases h0 : ec = 0
        · subst h0
          go_upto_region 12 with fail
          clear th h1n h1c
          have HBB := Lib.hid HP.out.2
          have HSX : Hid (w.heap.size < w6.heap.size) := Lib.hid (block_lt HR0.out)
          have HOW := Lib.hid (recs_below HOW.out HP.out.2); have HT2 := Lib.hid (HT2.out.below HP.out.2)
          have HR18 := Lib.hid HP.out.1
          have HR0 := Lib.hid ((HBB.out.block _ (block_lt HR0.out)).trans HR0.out); have HB0 := Lib.hid (HB0.out.trans (HBB.out.mono HB0.out.size))
          have HTS := Lib.hid (HTS.out.below HBB.out); have HFS := Lib.hid (HFS.out.below HBB.out); have HXS := Lib.hid (HXS.out.below HBB.out)
          clear HBB HP
          generalize (w6.alloc (.cells #[.int .u64 0, .string ⟨#[]⟩, .int .i64 0, .slice none 0 0, .slice none 0 0, .int .u64 0, .int .u64 0, .int .u64 0, .int .i64 0, .int .i64 0, .slice none 0 0] 45 (0, 0))).setCells w6.heap.size 0 [.int .u64 tc.num, .string tc.loc, .int .i64 tc.iss, .slice a1 k1 b1, .slice a2 k2 b2, .int .u64 tc.prev, .int .u64 tc.org, .int .u64 tc.fst, .int .i64 tc.vou, .int .i64 tc.posts, .slice a3 k3 b3] = w7 at *
          have HRR : Hid (R = ([tc, Dk.xchT t n on (if 0 < Dk.needX t pen fl xs then 0 else -Dk.needX t pen fl xs) fl xs], [Dk.exchP t pen on n fl xs], 0)) := Lib.hid (by rw [← HRV.out]; unfold Dk.exchD; rw [if_neg (by rw [HGD.out]; decide), if_neg (by rw [HE.out, HQG.out]; decide), if_neg (by rw [HBQ.out]; decide), HRC.out, if_neg (by simp)])
          have HG18 : Hid (w.heap.size < w6.heap.size ∧ w6.heap.size < w7.heap.size) := Lib.hid ⟨HSX.out, block_lt HR18.out⟩
          generalize w6.heap.size = g18 at *
          have HFA := Lib.hid (Dk.row_va HRB.out)
          have HXA := Lib.hid (Dk.taxed_am HTB.out)
          have HFL : Hid (fl.length ≤ 4) := Lib.hid (by have h1 := HRB.out; unfold Dk.rowB at h1; simp only [Bool.and_eq_true, decide_eq_true_eq] at h1; omega)
          have HCL := Lib.hid (fun W hl => cloneTx_any (.slice px nx cx) xs (by have := HXA.out.2; omega) W hl)
          go_upto_region 12 with fail
          refine wp_region_box 14 (T := fun A B => Below A.heap.size A B) (G := fun W => Below w7.heap.size w7 W) (R := fun k => match k with | 0 => fun v _ => v = .int .u64 n | 1 => fun v _ => v = .pointer (some ⟨w.heap.size, 1, none⟩) | 2 => fun v _ => v = .string t.loc | 3 => fun v _ => v = .int .i64 on | 4 => fun v _ => v = .slice q' k' c' | 5 => fun v _ => v = .slice px nx cx | 6 => fun v W => ∃ (p2 : Option Addr) (m2 c2 : Nat), v = .slice p2 m2 c2 ∧ W.ownsRow w7.heap.size 56 2 (.slice p2 m2 c2) xs.length (encL Txx.cells xs) | 7 => fun v _ => v = .pointer (some ⟨w.heap.size, 0, none⟩) | 8 => fun v _ => v = .int .u64 t.num | 9 => fun v _ => v = .pointer (some ⟨w.heap.size, 6, none⟩) | 10 => fun v _ => v = .int .u64 t.org | 11 => fun v _ => v = .int .u64 n | 12 => fun v W => ∃ (p2 : Option Addr) (m2 c2 : Nat), v = .agg #[.int .u64 n, .string t.loc, .int .i64 on, .slice q' k' c', .slice p2 m2 c2, .int .u64 t.num, .int .u64 t.org, .int .u64 n, .int .i64 0, .int .i64 1, .slice none 0 0] ∧ W.ownsRow w7.heap.size 56 2 (.slice p2 m2 c2) xs.length (encL Txx.cells xs) | 13 => fun v W => ∃ N : Nat, v = .pointer (some ⟨N, 0, none⟩) ∧ w7.heap.size ≤ N ∧ W.heap[N]? = some (.cells #[.int .u64 0, .string ⟨#[]⟩, .int .i64 0, .slice none 0 0, .slice none 0 0, .int .u64 0, .int .u64 0, .int .u64 0, .int .i64 0, .int .i64 0, .slice none 0 0] 45 (0, 0)) | 14 => fun _ _ => True | _ => fun _ _ => True) (E := fun k => match k with | 0 => fun v => v = .int .u64 n | 1 => fun v => v = .pointer (some ⟨w.heap.size, 1, none⟩) | 2 => fun v => v = .string t.loc | 3 => fun v => v = .int .i64 on | 4 => fun v => v = .slice q' k' c' | 5 => fun v => v = .slice px nx cx | 6 => fun _ => True | 7 => fun v => v = .pointer (some ⟨w.heap.size, 0, none⟩) | 8 => fun v => v = .int .u64 t.num | 9 => fun v => v = .pointer (some ⟨w.heap.size, 6, none⟩) | 10 => fun v => v = .int .u64 t.org | 11 => fun v => v = .int .u64 n | 12 => fun _ => True | 13 => fun _ => True | 14 => fun _ => True | _ => fun _ => True) (Fin := fun f W => ∃ (N : Nat) (p2 : Option Addr) (m2 c2 : Nat), f 13 = .pointer (some ⟨N, 0, none⟩) ∧ w7.heap.size ≤ N ∧ W.heap[N]? = some (.cells #[.int .u64 n, .string t.loc, .int .i64 on, .slice q' k' c', .slice p2 m2 c2, .int .u64 t.num, .int .u64 t.org, .int .u64 n, .int .i64 0, .int .i64 1, .slice none 0 0] 45 (0, 0)) ∧ W.ownsRow w7.heap.size 56 2 (.slice p2 m2 c2) xs.length (encL Txx.cells xs) ∧ Below w7.heap.size w7 W) (by kernel_rfl) (by kernel_rfl) (by kernel_rfl) ?iL ?iT ?iRE ?iER ?iF ((Below.refl _ _).drew) ?iS ?iD
          case iL => decide
          case iT =>
            intro k v A B hT h
            match k, h with
            | 0, h => exact h
            | 1, h => exact h
            | 2, h => exact h
            | 3, h => exact h
            | 4, h => exact h
            | 5, h => exact h
            | 6, h => exact (by obtain ⟨p2, m2, c2, e, ho⟩ := h; exact ⟨p2, m2, c2, e, recs_below ho hT⟩)
            | 7, h => exact h
            | 8, h => exact h
            | 9, h => exact h
            | 10, h => exact h
            | 11, h => exact h
            | 12, h => exact (by obtain ⟨p2, m2, c2, e, ho⟩ := h; exact ⟨p2, m2, c2, e, recs_below ho hT⟩)
            | 13, h => exact (by obtain ⟨N, e, hN, hr⟩ := h; exact ⟨N, e, hN, (hT.block _ (block_lt hr)).trans hr⟩)
            | 14, h => exact h
            | _ + 15, h => exact trivial
          case iRE =>
            intro k v W h
            match k, h with
            | 0, h => exact h
            | 1, h => exact h
            | 2, h => exact h
            | 3, h => exact h
            | 4, h => exact h
            | 5, h => exact h
            | 6, h => exact trivial
            | 7, h => exact h
            | 8, h => exact h
            | 9, h => exact h
            | 10, h => exact h
            | 11, h => exact h
            | 12, h => exact trivial
            | 13, h => exact trivial
            | 14, h => exact trivial
            | _ + 15, h => exact trivial
          case iER =>
            intro k v W hk hw h
            match k, hk, hw, h with
            | 0, _, hw, _ => exact no_ft hw (by kernel_rfl)
            | 1, _, hw, _ => exact no_ft hw (by kernel_rfl)
            | 2, _, hw, _ => exact no_ft hw (by kernel_rfl)
            | 3, _, hw, _ => exact no_ft hw (by kernel_rfl)
            | 4, _, hw, _ => exact no_ft hw (by kernel_rfl)
            | 5, _, hw, _ => exact no_ft hw (by kernel_rfl)
            | 6, _, hw, _ => exact no_ft hw (by kernel_rfl)
            | 7, _, hw, _ => exact no_ft hw (by kernel_rfl)
            | 8, _, hw, _ => exact no_ft hw (by kernel_rfl)
            | 9, _, hw, _ => exact no_ft hw (by kernel_rfl)
            | 10, _, hw, _ => exact no_ft hw (by kernel_rfl)
            | 11, _, hw, _ => exact no_ft hw (by kernel_rfl)
            | 12, _, hw, _ => exact no_ft hw (by kernel_rfl)
            | 13, _, hw, _ => exact no_ft hw (by kernel_rfl)
            | 14, hk, _, _ => exact absurd rfl hk
            | _ + 15, _, _, h => exact trivial
          case iF =>
            intro f g W h hF
            obtain ⟨N, p2, m2, c2, h1, h2⟩ := hF
            exact ⟨N, p2, m2, c2, (h 13 (by kernel_rfl)).symm.trans h1, h2⟩
          case iS =>
            refine StepsB.consR (by decide) (by kernel_rfl) ?s0 (StepsB.consR (by decide) (by kernel_rfl) ?s1 (StepsB.consR (by decide) (by kernel_rfl) ?s2 (StepsB.consR (by decide) (by kernel_rfl) ?s3 (StepsB.consR (by decide) (by kernel_rfl) ?s4 (StepsB.consR (by decide) (by kernel_rfl) ?s5 (StepsB.consR (by decide) (by kernel_rfl) ?s6 (StepsB.consR (by decide) (by kernel_rfl) ?s7 (StepsB.consR (by decide) (by kernel_rfl) ?s8 (StepsB.consR (by decide) (by kernel_rfl) ?s9 (StepsB.consR (by decide) (by kernel_rfl) ?s10 (StepsB.consR (by decide) (by kernel_rfl) ?s11 (StepsB.consR (by decide) (by kernel_rfl) ?s12 (StepsB.consR (by decide) (by kernel_rfl) ?s13 (StepsB.consS (by decide) ?s14 (trivial)))))))))))))))
            case s0 =>
              intro f W hG hW K hK
              try dsimp only at hG
              simp only [putF, Act.put, List.setIfInBounds_toArray, List.set_cons_zero, List.set_cons_succ, Nat.reduceAdd, Nat.zero_add] at hK ⊢
              clear hW
              go_simp
              refine hK.out _ _ (Below.refl _ _) hG ?_
              first | with_reducible rfl | rfl
            case s1 =>
              intro f W hG hW K hK
              try dsimp only at hG
              simp only [putF, Act.put, List.setIfInBounds_toArray, List.set_cons_zero, List.set_cons_succ, Nat.reduceAdd, Nat.zero_add] at hK ⊢
              clear hW
              go_simp
              refine hK.out _ _ (Below.refl _ _) hG ?_
              first | with_reducible rfl | rfl
            case s2 =>
              intro f W hG hW K hK
              try dsimp only at hG
              have e1 := hW 1 (by kernel_rfl)
              change f 1 = .pointer (some ⟨w.heap.size, 1, none⟩) at e1
              simp only [putF, Act.put, List.setIfInBounds_toArray, List.set_cons_zero, List.set_cons_succ, Nat.reduceAdd, Nat.zero_add] at hK ⊢
              (try rw [e1])
              (try rw [e1] at hK)
              have hrw := (hG.block w.heap.size (block_lt HR0.out)).trans HR0.out
              have kc := fun j => cell_of_row W w.heap.size j _ _ _ hrw
              clear hW
              go_simp
              refine hK.out _ _ (Below.refl _ _) hG ?_
              first | with_reducible rfl | rfl
            case s3 =>
              intro f W hG hW K hK
              try dsimp only at hG
              simp only [putF, Act.put, List.setIfInBounds_toArray, List.set_cons_zero, List.set_cons_succ, Nat.reduceAdd, Nat.zero_add] at hK ⊢
              clear hW
              go_simp
              refine hK.out _ _ (Below.refl _ _) hG ?_
              first | with_reducible rfl | rfl
            case s4 =>
              intro f W hG hW K hK
              try dsimp only at hG
              simp only [putF, Act.put, List.setIfInBounds_toArray, List.set_cons_zero, List.set_cons_succ, Nat.reduceAdd, Nat.zero_add] at hK ⊢
              clear hW
              go_simp
              refine hK.out _ _ (Below.refl _ _) hG ?_
              first | with_reducible rfl | rfl
            case s5 =>
              intro f W hG hW K hK
              try dsimp only at hG
              simp only [putF, Act.put, List.setIfInBounds_toArray, List.set_cons_zero, List.set_cons_succ, Nat.reduceAdd, Nat.zero_add] at hK ⊢
              clear hW
              go_simp
              refine hK.out _ _ (Below.refl _ _) hG ?_
              first | with_reducible rfl | rfl
            case s6 =>
              intro f W hG hW K hK
              try dsimp only at hG
              have e5 := hW 5 (by kernel_rfl)
              change f 5 = .slice px nx cx at e5
              simp only [putF, Act.put, List.setIfInBounds_toArray, List.set_cons_zero, List.set_cons_succ, Nat.reduceAdd, Nat.zero_add] at hK ⊢
              (try rw [e5])
              (try rw [e5] at hK)
              clear hW
              go_simp
              refine (HCL.out W (HXS.out.below hG)).mono ?_
              rintro e w' ⟨v', rfl, hown, hb⟩
              obtain ⟨p2, c2, hv2⟩ := (LS.of_own hown Txx.cells_length (by decide)).shape
              subst hv2
              exact hK.out _ _ hb (hG.trans (hb.mono hG.size)) ⟨p2, _, c2, rfl, own_monoT hown hG.size⟩
            case s7 =>
              intro f W hG hW K hK
              try dsimp only at hG
              simp only [putF, Act.put, List.setIfInBounds_toArray, List.set_cons_zero, List.set_cons_succ, Nat.reduceAdd, Nat.zero_add] at hK ⊢
              clear hW
              go_simp
              refine hK.out _ _ (Below.refl _ _) hG ?_
              first | with_reducible rfl | rfl
            case s8 =>
              intro f W hG hW K hK
              try dsimp only at hG
              have e7 := hW 7 (by kernel_rfl)
              change f 7 = .pointer (some ⟨w.heap.size, 0, none⟩) at e7
              simp only [putF, Act.put, List.setIfInBounds_toArray, List.set_cons_zero, List.set_cons_succ, Nat.reduceAdd, Nat.zero_add] at hK ⊢
              (try rw [e7])
              (try rw [e7] at hK)
              have hrw := (hG.block w.heap.size (block_lt HR0.out)).trans HR0.out
              have kc := fun j => cell_of_row W w.heap.size j _ _ _ hrw
              clear hW
              go_simp
              refine hK.out _ _ (Below.refl _ _) hG ?_
              first | with_reducible rfl | rfl
            case s9 =>
              intro f W hG hW K hK
              try dsimp only at hG
              simp only [putF, Act.put, List.setIfInBounds_toArray, List.set_cons_zero, List.set_cons_succ, Nat.reduceAdd, Nat.zero_add] at hK ⊢
              clear hW
              go_simp
              refine hK.out _ _ (Below.refl _ _) hG ?_
              first | with_reducible rfl | rfl
            case s10 =>
              intro f W hG hW K hK
              try dsimp only at hG
              have e9 := hW 9 (by kernel_rfl)
              change f 9 = .pointer (some ⟨w.heap.size, 6, none⟩) at e9
              simp only [putF, Act.put, List.setIfInBounds_toArray, List.set_cons_zero, List.set_cons_succ, Nat.reduceAdd, Nat.zero_add] at hK ⊢
              (try rw [e9])
              (try rw [e9] at hK)
              have hrw := (hG.block w.heap.size (block_lt HR0.out)).trans HR0.out
              have kc := fun j => cell_of_row W w.heap.size j _ _ _ hrw
              clear hW
              go_simp
              refine hK.out _ _ (Below.refl _ _) hG ?_
              first | with_reducible rfl | rfl
            case s11 =>
              intro f W hG hW K hK
              try dsimp only at hG
              simp only [putF, Act.put, List.setIfInBounds_toArray, List.set_cons_zero, List.set_cons_succ, Nat.reduceAdd, Nat.zero_add] at hK ⊢
              clear hW
              go_simp
              refine hK.out _ _ (Below.refl _ _) hG ?_
              first | with_reducible rfl | rfl
            case s12 =>
              intro f W hG hW K hK
              try dsimp only at hG
              have e0 := hW 0 (by kernel_rfl)
              change f 0 = .int .u64 n at e0
              have e2 := hW 2 (by kernel_rfl)
              change f 2 = .string t.loc at e2
              have e3 := hW 3 (by kernel_rfl)
              change f 3 = .int .i64 on at e3
              have e4 := hW 4 (by kernel_rfl)
              change f 4 = .slice q' k' c' at e4
              have e6 := hW 6 (by kernel_rfl)
              try dsimp only at e6
              have e8 := hW 8 (by kernel_rfl)
              change f 8 = .int .u64 t.num at e8
              have e10 := hW 10 (by kernel_rfl)
              change f 10 = .int .u64 t.org at e10
              have e11 := hW 11 (by kernel_rfl)
              change f 11 = .int .u64 n at e11
              simp only [putF, Act.put, List.setIfInBounds_toArray, List.set_cons_zero, List.set_cons_succ, Nat.reduceAdd, Nat.zero_add] at hK ⊢
              (try rw [e0])
              (try rw [e0] at hK)
              (try rw [e2])
              (try rw [e2] at hK)
              (try rw [e3])
              (try rw [e3] at hK)
              (try rw [e4])
              (try rw [e4] at hK)
              (try rw [e8])
              (try rw [e8] at hK)
              (try rw [e10])
              (try rw [e10] at hK)
              (try rw [e11])
              (try rw [e11] at hK)
              obtain ⟨p2, m2, c2, h6, ho⟩ := e6
              simp only [h6] at hK ⊢
              clear hW
              go_simp
              refine hK.out _ _ (Below.refl _ _) hG ?_
              exact ⟨p2, m2, c2, rfl, ho⟩
            case s13 =>
              intro f W hG hW K hK
              try dsimp only at hG
              simp only [putF, Act.put, List.setIfInBounds_toArray, List.set_cons_zero, List.set_cons_succ, Nat.reduceAdd, Nat.zero_add] at hK ⊢
              clear hW
              go_simp
              refine hK.out _ _ ((Below.refl _ _).alloc (Nat.le_refl _) _) (hG.alloc hG.size _) ?_
              exact ⟨W.heap.size, rfl, hG.size, new_rowW _ _ _ rfl⟩
            case s14 =>
              intro f W hG hW K hK
              try dsimp only at hG
              have e0 := hW 0 (by kernel_rfl)
              change f 0 = .int .u64 n at e0
              have e1 := hW 1 (by kernel_rfl)
              change f 1 = .pointer (some ⟨w.heap.size, 1, none⟩) at e1
              have e2 := hW 2 (by kernel_rfl)
              change f 2 = .string t.loc at e2
              have e3 := hW 3 (by kernel_rfl)
              change f 3 = .int .i64 on at e3
              have e4 := hW 4 (by kernel_rfl)
              change f 4 = .slice q' k' c' at e4
              have e5 := hW 5 (by kernel_rfl)
              change f 5 = .slice px nx cx at e5
              have e6 := hW 6 (by kernel_rfl)
              try dsimp only at e6
              have e7 := hW 7 (by kernel_rfl)
              change f 7 = .pointer (some ⟨w.heap.size, 0, none⟩) at e7
              have e8 := hW 8 (by kernel_rfl)
              change f 8 = .int .u64 t.num at e8
              have e9 := hW 9 (by kernel_rfl)
              change f 9 = .pointer (some ⟨w.heap.size, 6, none⟩) at e9
              have e10 := hW 10 (by kernel_rfl)
              change f 10 = .int .u64 t.org at e10
              have e11 := hW 11 (by kernel_rfl)
              change f 11 = .int .u64 n at e11
              have e12 := hW 12 (by kernel_rfl)
              try dsimp only at e12
              have e13 := hW 13 (by kernel_rfl)
              try dsimp only at e13
              simp only [putF, Act.put, List.setIfInBounds_toArray, List.set_cons_zero, List.set_cons_succ, Nat.reduceAdd, Nat.zero_add] at hK ⊢
              (try rw [e0])
              (try rw [e0] at hK)
              (try rw [e1])
              (try rw [e1] at hK)
              (try rw [e2])
              (try rw [e2] at hK)
              (try rw [e3])
              (try rw [e3] at hK)
              (try rw [e4])
              (try rw [e4] at hK)
              (try rw [e5])
              (try rw [e5] at hK)
              (try rw [e7])
              (try rw [e7] at hK)
              (try rw [e8])
              (try rw [e8] at hK)
              (try rw [e9])
              (try rw [e9] at hK)
              (try rw [e10])
              (try rw [e10] at hK)
              (try rw [e11])
              (try rw [e11] at hK)
              obtain ⟨p2, m2, c2, h6, ho⟩ := e12
              obtain ⟨N, hN, hNB, hcr⟩ := e13
              simp only [h6, hN] at hK ⊢
              have th := there_rowD hcr 11 rfl
              have h1n : ([.int .u64 n, .string t.loc, .int .i64 on, .slice q' k' c', .slice p2 m2 c2, .int .u64 t.num, .int .u64 t.org, .int .u64 n, .int .i64 0, .int .i64 1, .slice none 0 0] : List Value).length = 11 := rfl
              have h1c : ([.int .u64 n, .string t.loc, .int .i64 on, .slice q' k' c', .slice p2 m2 c2, .int .u64 t.num, .int .u64 t.org, .int .u64 n, .int .i64 0, .int .i64 1, .slice none 0 0] : List Value).all (·.oneCell') = true := rfl
              have hrw := setCells_rowA (cs := [.int .u64 n, .string t.loc, .int .i64 on, .slice q' k' c', .slice p2 m2 c2, .int .u64 t.num, .int .u64 t.org, .int .u64 n, .int .i64 0, .int .i64 1, .slice none 0 0]) hcr rfl
              have hon := (Only.refl N W).setCells 0 [.int .u64 n, .string t.loc, .int .i64 on, .slice q' k' c', .slice p2 m2 c2, .int .u64 t.num, .int .u64 t.org, .int .u64 n, .int .i64 0, .int .i64 1, .slice none 0 0]
              have HNB := Lib.hid hNB; have HRQ := Lib.hid hrw; have HONN := Lib.hid hon; have HOX := Lib.hid (recs_only ho (own_neT ho hcr (by decide)) hon)
              clear hW hNB hcr hrw hon
              go_simp
              refine hK.out undef _ trivial ?_
              exact ⟨N, p2, m2, c2, rfl, HNB.out, HRQ.out, HOX.out, Only.below hG HNB.out hG.size HONN.out⟩
          case iD =>
            intro f W hF hE
            have r0 := hE 0 (by decide)
            change f 0 = .int .u64 n at r0
            have r1 := hE 1 (by decide)
            change f 1 = .pointer (some ⟨w.heap.size, 1, none⟩) at r1
            have r2 := hE 2 (by decide)
            change f 2 = .string t.loc at r2
            have r3 := hE 3 (by decide)
            change f 3 = .int .i64 on at r3
            have r4 := hE 4 (by decide)
            change f 4 = .slice q' k' c' at r4
            have r5 := hE 5 (by decide)
            change f 5 = .slice px nx cx at r5
            have r7 := hE 7 (by decide)
            change f 7 = .pointer (some ⟨w.heap.size, 0, none⟩) at r7
            have r8 := hE 8 (by decide)
            change f 8 = .int .u64 t.num at r8
            have r9 := hE 9 (by decide)
            change f 9 = .pointer (some ⟨w.heap.size, 6, none⟩) at r9
            have r10 := hE 10 (by decide)
            change f 10 = .int .u64 t.org at r10
            have r11 := hE 11 (by decide)
            change f 11 = .int .u64 n at r11
            clear hE
            simp only [putF, Act.put, List.setIfInBounds_toArray, List.set_cons_zero, List.set_cons_succ, Nat.reduceAdd, Nat.zero_add]
            (try rw [r0])
            (try rw [r1])
            (try rw [r2])
            (try rw [r3])
            (try rw [r4])
            (try rw [r5])
            (try rw [r7])
            (try rw [r8])
            (try rw [r9])
            (try rw [r10])
            (try rw [r11])
            obtain ⟨g19, p2, m2, c2, hfN, hNB, hrow, hown2, hbb⟩ := hF
            rw [hfN]
            have HN19 := Lib.hid hNB; have HR19 := Lib.hid hrow; have HO2 := Lib.hid hown2; have HBB := Lib.hid hbb
            clear hfN hNB hrow hown2 hbb r0 r1 r2 r3 r4 r5 r7 r8 r9 r10 r11
            generalize W = w8 at *
            have HOF19 : Hid (Off g19 tc ⟨a1, k1, b1⟩ ⟨a2, k2, b2⟩ ⟨a3, k3, b3⟩) := Lib.hid (Off.of_old HT2.out HN19.out)
            have HOW4 := Lib.hid (recs_below HOW.out HBB.out); have HT3 := Lib.hid (HT2.out.below HBB.out)
            have HR18 := Lib.hid ((HBB.out.block _ (block_lt HR18.out)).trans HR18.out)
            have HR0 := Lib.hid ((HBB.out.block _ (block_lt HR0.out)).trans HR0.out); have HB0 := Lib.hid (HB0.out.trans (HBB.out.mono HB0.out.size))
            have HTS := Lib.hid (HTS.out.below HBB.out); have HFS := Lib.hid (HFS.out.below HBB.out); have HXS := Lib.hid (HXS.out.below HBB.out)
            clear HOW HT2 HBB HCL
            obtain ⟨vv, hvv⟩ : ∃ k, Dk.valN [1] t.cs = k := ⟨_, rfl⟩
            obtain ⟨aa, haa⟩ : ∃ k, Dk.freeN [1] t = k := ⟨_, rfl⟩
            obtain ⟨ww, hww⟩ : ∃ k, Dk.valN [1] (fl.map Dk.soldC) = k := ⟨_, rfl⟩
            obtain ⟨bb, hbb⟩ : ∃ k, Tkt.taxI xs = k := ⟨_, rfl⟩
            have HV1 : Hid (0 ≤ vv ∧ vv ≤ 4000000000000) := Lib.hid (by have h1 := Dk.valN_bound [1] t.cs HMA.out.1; have h2 := HLN.out.2.1; rw [hvv] at h1; omega)
            have HA1 : Hid (0 ≤ aa ∧ aa ≤ 4000000000000) := Lib.hid (by have h1 := Dk.freeN_bound [1] t HMA.out.2; have h2 := HLN.out.2.2.1; rw [haa] at h1; omega)
            have HW1 : Hid (0 ≤ ww ∧ ww ≤ 4000000000000) := Lib.hid (by have h1 := Dk.valN_bound [1] (fl.map Dk.soldC) HFA.out; have h2 := HFL.out; rw [hww, List.length_map] at h1; omega)
            have HB1 : Hid (0 ≤ bb ∧ bb ≤ 4000000000000) := Lib.hid (by have h1 := Tkt.taxI_bound xs HXA.out.1; have h2 := HXA.out.2; rw [hbb] at h1; omega)
            have HVL := Lib.hid (fun W po no co hl ho => dvalues_any t c x h [1] po no co W hl HMA.out.1 (by have := HLN.out.2.1; omega) ho)
            have HFR := Lib.hid (fun W po no co ts ho hpo => dfree_any t c x h [1] po no co W ts ho hpo HMA.out.2 (by have := HLN.out.2.2.1; omega) (by have := HLN.out.2.1; omega))
            have HVX := Lib.hid (fun W po no co hl ho => dvalues_any ⟨n, t.loc, on, fl.map Dk.soldC, xs, t.num, t.org, n, 0, 1, []⟩ ⟨q', k', c'⟩ ⟨p2, m2, c2⟩ ⟨none, 0, 0⟩ [1] po no co W hl HFA.out (by show (fl.map Dk.soldC).length ≤ 1000; rw [List.length_map]; have := HFL.out; omega) ho)
            have HTXX := Lib.hid (fun W hl => dtaxes_any ⟨n, t.loc, on, fl.map Dk.soldC, xs, t.num, t.org, n, 0, 1, []⟩ ⟨q', k', c'⟩ ⟨p2, m2, c2⟩ ⟨none, 0, 0⟩ W hl HXA.out.1 (by show xs.length ≤ 1000; have := HXA.out.2; omega))
            rw [hvv] at HVL; rw [haa] at HFR
            have HVV := Lib.hid hvv; have HAA := Lib.hid haa; have HWW := Lib.hid hww; have HBB2 := Lib.hid hbb
            clear hvv haa hww hbb
            go_upto_region 13 with fail
            refine wp_region_rel (T := fun A B => Below A.heap.size A B) (G := fun W => Below w8.heap.size w8 W) (R := fun k => match k with | 0 => fun v _ => v = .agg #[.int .u64 t.num, .string t.loc, .int .i64 t.iss, .slice c.p c.n c.c, .slice x.p x.n x.c, .int .u64 t.prev, .int .u64 t.org, .int .u64 t.fst, .int .i64 t.vou, .int .i64 t.posts, .slice h.p h.n h.c] | 1 => fun v W => ∃ g, v = .slice (some ⟨g, 0, none⟩) 1 1 ∧ g < W.heap.size ∧ LS stC 1 W (.slice (some ⟨g, 0, none⟩) 1 1) [1] | 2 => fun v _ => v = .int .i64 vv | 3 => fun v _ => v = .agg #[.int .u64 t.num, .string t.loc, .int .i64 t.iss, .slice c.p c.n c.c, .slice x.p x.n x.c, .int .u64 t.prev, .int .u64 t.org, .int .u64 t.fst, .int .i64 t.vou, .int .i64 t.posts, .slice h.p h.n h.c] | 4 => fun v W => ∃ g, v = .slice (some ⟨g, 0, none⟩) 1 1 ∧ g < W.heap.size ∧ LS stC 1 W (.slice (some ⟨g, 0, none⟩) 1 1) [1] | 5 => fun v _ => v = .int .i64 aa | 6 => fun v _ => v = .agg #[.int .u64 n, .string t.loc, .int .i64 on, .slice q' k' c', .slice p2 m2 c2, .int .u64 t.num, .int .u64 t.org, .int .u64 n, .int .i64 0, .int .i64 1, .slice none 0 0] | 7 => fun v W => ∃ g, v = .slice (some ⟨g, 0, none⟩) 1 1 ∧ g < W.heap.size ∧ LS stC 1 W (.slice (some ⟨g, 0, none⟩) 1 1) [1] | 8 => fun v _ => v = .int .i64 ww | 9 => fun v _ => v = .agg #[.int .u64 n, .string t.loc, .int .i64 on, .slice q' k' c', .slice p2 m2 c2, .int .u64 t.num, .int .u64 t.org, .int .u64 n, .int .i64 0, .int .i64 1, .slice none 0 0] | 10 => fun v _ => v = .int .i64 bb | 11 => fun v _ => v = .int .i64 vv | 12 => fun v _ => v = .int .i64 aa | 13 => fun v _ => v = .int .i64 ww | 14 => fun v _ => v = .int .i64 bb | _ => fun _ _ => True) (by kernel_rfl) (by kernel_rfl) (by kernel_rfl) ?iT ((Below.refl _ _).drew) ?iS ?iD
            case iT =>
              intro k v A B hT h
              match k, h with
              | 0, h => exact h
              | 1, h => exact (by obtain ⟨g, h1, h2, h3⟩ := h; exact ⟨g, h1, Nat.lt_of_lt_of_le h2 hT.size, h3.below hT⟩)
              | 2, h => exact h
              | 3, h => exact h
              | 4, h => exact (by obtain ⟨g, h1, h2, h3⟩ := h; exact ⟨g, h1, Nat.lt_of_lt_of_le h2 hT.size, h3.below hT⟩)
              | 5, h => exact h
              | 6, h => exact h
              | 7, h => exact (by obtain ⟨g, h1, h2, h3⟩ := h; exact ⟨g, h1, Nat.lt_of_lt_of_le h2 hT.size, h3.below hT⟩)
              | 8, h => exact h
              | 9, h => exact h
              | 10, h => exact h
              | 11, h => exact h
              | 12, h => exact h
              | 13, h => exact h
              | 14, h => exact h
              | _ + 15, h => exact trivial
            case iS =>
              refine ⟨?s0, ?s1, ?s2, ?s3, ?s4, ?s5, ?s6, ?s7, ?s8, ?s9, ?s10, ?s11, ?s12, ?s13, ?s14, trivial⟩
              case s0 =>
                intro f W hG hW K hK
                try dsimp only at hG
                simp only [putF, Act.put, List.setIfInBounds_toArray, List.set_cons_zero, List.set_cons_succ, Nat.reduceAdd, Nat.zero_add] at hK ⊢
                have hrw := (hG.block w.heap.size (block_lt HR0.out)).trans HR0.out
                obtain ⟨f1, f2⟩ := row_loT 11 hrw rfl rfl
                clear hW
                go_simp
                refine hK.out _ _ (Below.refl _ _) hG ?_
                first | with_reducible rfl | rfl
              case s1 =>
                intro f W hG hW K hK
                try dsimp only at hG
                simp only [putF, Act.put, List.setIfInBounds_toArray, List.set_cons_zero, List.set_cons_succ, Nat.reduceAdd, Nat.zero_add] at hK ⊢
                clear hW
                go_simp
                refine hK.out _ _ ((Below.refl _ _).alloc (Nat.le_refl _) _) (hG.alloc hG.size _) ?_
                exact ⟨W.heap.size, rfl, by simp, ls_rowG (enc := stC) (l := [1]) (new_rowW _ _ _ rfl) rfl (fun _ => rfl) (by decide) (by decide)⟩
              case s2 =>
                intro f W hG hW K hK
                try dsimp only at hG
                have e0 := hW 0 (by kernel_rfl)
                change f 0 = .agg #[.int .u64 t.num, .string t.loc, .int .i64 t.iss, .slice c.p c.n c.c, .slice x.p x.n x.c, .int .u64 t.prev, .int .u64 t.org, .int .u64 t.fst, .int .i64 t.vou, .int .i64 t.posts, .slice h.p h.n h.c] at e0
                have e1 := hW 1 (by kernel_rfl)
                try dsimp only at e1
                simp only [putF, Act.put, List.setIfInBounds_toArray, List.set_cons_zero, List.set_cons_succ, Nat.reduceAdd, Nat.zero_add] at hK ⊢
                (try rw [e0])
                (try rw [e0] at hK)
                obtain ⟨g, hv, hg, hl⟩ := e1
                simp only [hv] at hK ⊢
                clear hW
                go_simp
                refine (HVL.out W _ _ _ (HTS.out.below hG).cs hl).mono ?_
                rintro e w' ⟨rfl, hb⟩
                refine hK.out _ _ hb (hG.trans (hb.mono hG.size)) ?_
                rfl
              case s3 =>
                intro f W hG hW K hK
                try dsimp only at hG
                simp only [putF, Act.put, List.setIfInBounds_toArray, List.set_cons_zero, List.set_cons_succ, Nat.reduceAdd, Nat.zero_add] at hK ⊢
                have hrw := (hG.block w.heap.size (block_lt HR0.out)).trans HR0.out
                obtain ⟨f1, f2⟩ := row_loT 11 hrw rfl rfl
                clear hW
                go_simp
                refine hK.out _ _ (Below.refl _ _) hG ?_
                first | with_reducible rfl | rfl
              case s4 =>
                intro f W hG hW K hK
                try dsimp only at hG
                simp only [putF, Act.put, List.setIfInBounds_toArray, List.set_cons_zero, List.set_cons_succ, Nat.reduceAdd, Nat.zero_add] at hK ⊢
                clear hW
                go_simp
                refine hK.out _ _ ((Below.refl _ _).alloc (Nat.le_refl _) _) (hG.alloc hG.size _) ?_
                exact ⟨W.heap.size, rfl, by simp, ls_rowG (enc := stC) (l := [1]) (new_rowW _ _ _ rfl) rfl (fun _ => rfl) (by decide) (by decide)⟩
              case s5 =>
                intro f W hG hW K hK
                try dsimp only at hG
                have e2 := hW 2 (by kernel_rfl)
                change f 2 = .int .i64 vv at e2
                have e3 := hW 3 (by kernel_rfl)
                change f 3 = .agg #[.int .u64 t.num, .string t.loc, .int .i64 t.iss, .slice c.p c.n c.c, .slice x.p x.n x.c, .int .u64 t.prev, .int .u64 t.org, .int .u64 t.fst, .int .i64 t.vou, .int .i64 t.posts, .slice h.p h.n h.c] at e3
                have e4 := hW 4 (by kernel_rfl)
                try dsimp only at e4
                simp only [putF, Act.put, List.setIfInBounds_toArray, List.set_cons_zero, List.set_cons_succ, Nat.reduceAdd, Nat.zero_add] at hK ⊢
                (try rw [e2])
                (try rw [e2] at hK)
                (try rw [e3])
                (try rw [e3] at hK)
                obtain ⟨g, hv, hg, hl⟩ := e4
                simp only [hv] at hK ⊢
                clear hW
                go_simp
                refine (HFR.out W _ _ _ (HTS.out.below hG) hl (fun b hb => by injection hb with hb; have hb : g = b := hb; omega)).mono ?_
                rintro e w' ⟨rfl, hb⟩
                refine hK.out _ _ hb (hG.trans (hb.mono hG.size)) ?_
                rfl
              case s6 =>
                intro f W hG hW K hK
                try dsimp only at hG
                simp only [putF, Act.put, List.setIfInBounds_toArray, List.set_cons_zero, List.set_cons_succ, Nat.reduceAdd, Nat.zero_add] at hK ⊢
                have hrw := (hG.block g19 (block_lt HR19.out)).trans HR19.out
                obtain ⟨f1, f2⟩ := row_loT 11 hrw rfl rfl
                clear hW
                go_simp
                refine hK.out _ _ (Below.refl _ _) hG ?_
                first | with_reducible rfl | rfl
              case s7 =>
                intro f W hG hW K hK
                try dsimp only at hG
                simp only [putF, Act.put, List.setIfInBounds_toArray, List.set_cons_zero, List.set_cons_succ, Nat.reduceAdd, Nat.zero_add] at hK ⊢
                clear hW
                go_simp
                refine hK.out _ _ ((Below.refl _ _).alloc (Nat.le_refl _) _) (hG.alloc hG.size _) ?_
                exact ⟨W.heap.size, rfl, by simp, ls_rowG (enc := stC) (l := [1]) (new_rowW _ _ _ rfl) rfl (fun _ => rfl) (by decide) (by decide)⟩
              case s8 =>
                intro f W hG hW K hK
                try dsimp only at hG
                have e5 := hW 5 (by kernel_rfl)
                change f 5 = .int .i64 aa at e5
                have e6 := hW 6 (by kernel_rfl)
                change f 6 = .agg #[.int .u64 n, .string t.loc, .int .i64 on, .slice q' k' c', .slice p2 m2 c2, .int .u64 t.num, .int .u64 t.org, .int .u64 n, .int .i64 0, .int .i64 1, .slice none 0 0] at e6
                have e7 := hW 7 (by kernel_rfl)
                try dsimp only at e7
                simp only [putF, Act.put, List.setIfInBounds_toArray, List.set_cons_zero, List.set_cons_succ, Nat.reduceAdd, Nat.zero_add] at hK ⊢
                (try rw [e5])
                (try rw [e5] at hK)
                (try rw [e6])
                (try rw [e6] at hK)
                obtain ⟨g, hv, hg, hl⟩ := e7
                simp only [hv] at hK ⊢
                clear hW
                go_simp
                refine (HVX.out W _ _ _ (LS.of_own (recs_below HOW4.out hG) Cpn.cells_length (by decide)) hl).mono ?_
                rintro e w' ⟨rfl, hb⟩
                refine hK.out _ _ hb (hG.trans (hb.mono hG.size)) ?_
                exact congrArg (Value.int .i64) HWW.out
              case s9 =>
                intro f W hG hW K hK
                try dsimp only at hG
                simp only [putF, Act.put, List.setIfInBounds_toArray, List.set_cons_zero, List.set_cons_succ, Nat.reduceAdd, Nat.zero_add] at hK ⊢
                have hrw := (hG.block g19 (block_lt HR19.out)).trans HR19.out
                obtain ⟨f1, f2⟩ := row_loT 11 hrw rfl rfl
                clear hW
                go_simp
                refine hK.out _ _ (Below.refl _ _) hG ?_
                first | with_reducible rfl | rfl
              case s10 =>
                intro f W hG hW K hK
                try dsimp only at hG
                have e8 := hW 8 (by kernel_rfl)
                change f 8 = .int .i64 ww at e8
                have e9 := hW 9 (by kernel_rfl)
                change f 9 = .agg #[.int .u64 n, .string t.loc, .int .i64 on, .slice q' k' c', .slice p2 m2 c2, .int .u64 t.num, .int .u64 t.org, .int .u64 n, .int .i64 0, .int .i64 1, .slice none 0 0] at e9
                simp only [putF, Act.put, List.setIfInBounds_toArray, List.set_cons_zero, List.set_cons_succ, Nat.reduceAdd, Nat.zero_add] at hK ⊢
                (try rw [e8])
                (try rw [e8] at hK)
                (try rw [e9])
                (try rw [e9] at hK)
                clear hW
                go_simp
                refine (HTXX.out W (LS.of_own (recs_below HO2.out hG) Txx.cells_length (by decide))).mono ?_
                rintro e w' ⟨rfl, hb⟩
                refine hK.out _ _ hb (hG.trans (hb.mono hG.size)) ?_
                exact congrArg (Value.int .i64) HBB2.out
              case s11 =>
                intro f W hG hW K hK
                try dsimp only at hG
                have e0 := hW 0 (by kernel_rfl)
                change f 0 = .agg #[.int .u64 t.num, .string t.loc, .int .i64 t.iss, .slice c.p c.n c.c, .slice x.p x.n x.c, .int .u64 t.prev, .int .u64 t.org, .int .u64 t.fst, .int .i64 t.vou, .int .i64 t.posts, .slice h.p h.n h.c] at e0
                have e1 := hW 1 (by kernel_rfl)
                try dsimp only at e1
                have e2 := hW 2 (by kernel_rfl)
                change f 2 = .int .i64 vv at e2
                have e10 := hW 10 (by kernel_rfl)
                change f 10 = .int .i64 bb at e10
                simp only [putF, Act.put, List.setIfInBounds_toArray, List.set_cons_zero, List.set_cons_succ, Nat.reduceAdd, Nat.zero_add] at hK ⊢
                (try rw [e0])
                (try rw [e0] at hK)
                (try rw [e2])
                (try rw [e2] at hK)
                (try rw [e10])
                (try rw [e10] at hK)
                clear hW
                go_simp
                refine hK.out _ _ (Below.refl _ _) hG ?_
                first | with_reducible rfl | rfl
              case s12 =>
                intro f W hG hW K hK
                try dsimp only at hG
                have e0 := hW 0 (by kernel_rfl)
                change f 0 = .agg #[.int .u64 t.num, .string t.loc, .int .i64 t.iss, .slice c.p c.n c.c, .slice x.p x.n x.c, .int .u64 t.prev, .int .u64 t.org, .int .u64 t.fst, .int .i64 t.vou, .int .i64 t.posts, .slice h.p h.n h.c] at e0
                have e1 := hW 1 (by kernel_rfl)
                try dsimp only at e1
                have e2 := hW 2 (by kernel_rfl)
                change f 2 = .int .i64 vv at e2
                have e3 := hW 3 (by kernel_rfl)
                change f 3 = .agg #[.int .u64 t.num, .string t.loc, .int .i64 t.iss, .slice c.p c.n c.c, .slice x.p x.n x.c, .int .u64 t.prev, .int .u64 t.org, .int .u64 t.fst, .int .i64 t.vou, .int .i64 t.posts, .slice h.p h.n h.c] at e3
                have e4 := hW 4 (by kernel_rfl)
                try dsimp only at e4
                have e5 := hW 5 (by kernel_rfl)
                change f 5 = .int .i64 aa at e5
                have e11 := hW 11 (by kernel_rfl)
                change f 11 = .int .i64 vv at e11
                simp only [putF, Act.put, List.setIfInBounds_toArray, List.set_cons_zero, List.set_cons_succ, Nat.reduceAdd, Nat.zero_add] at hK ⊢
                (try rw [e0])
                (try rw [e0] at hK)
                (try rw [e2])
                (try rw [e2] at hK)
                (try rw [e3])
                (try rw [e3] at hK)
                (try rw [e5])
                (try rw [e5] at hK)
                (try rw [e11])
                (try rw [e11] at hK)
                clear hW
                go_simp
                refine hK.out _ _ (Below.refl _ _) hG ?_
                first | with_reducible rfl | rfl
              case s13 =>
                intro f W hG hW K hK
                try dsimp only at hG
                have e0 := hW 0 (by kernel_rfl)
                change f 0 = .agg #[.int .u64 t.num, .string t.loc, .int .i64 t.iss, .slice c.p c.n c.c, .slice x.p x.n x.c, .int .u64 t.prev, .int .u64 t.org, .int .u64 t.fst, .int .i64 t.vou, .int .i64 t.posts, .slice h.p h.n h.c] at e0
                have e1 := hW 1 (by kernel_rfl)
                try dsimp only at e1
                have e2 := hW 2 (by kernel_rfl)
                change f 2 = .int .i64 vv at e2
                have e3 := hW 3 (by kernel_rfl)
                change f 3 = .agg #[.int .u64 t.num, .string t.loc, .int .i64 t.iss, .slice c.p c.n c.c, .slice x.p x.n x.c, .int .u64 t.prev, .int .u64 t.org, .int .u64 t.fst, .int .i64 t.vou, .int .i64 t.posts, .slice h.p h.n h.c] at e3
                have e4 := hW 4 (by kernel_rfl)
                try dsimp only at e4
                have e5 := hW 5 (by kernel_rfl)
                change f 5 = .int .i64 aa at e5
                have e6 := hW 6 (by kernel_rfl)
                change f 6 = .agg #[.int .u64 n, .string t.loc, .int .i64 on, .slice q' k' c', .slice p2 m2 c2, .int .u64 t.num, .int .u64 t.org, .int .u64 n, .int .i64 0, .int .i64 1, .slice none 0 0] at e6
                have e7 := hW 7 (by kernel_rfl)
                try dsimp only at e7
                have e8 := hW 8 (by kernel_rfl)
                change f 8 = .int .i64 ww at e8
                have e11 := hW 11 (by kernel_rfl)
                change f 11 = .int .i64 vv at e11
                have e12 := hW 12 (by kernel_rfl)
                change f 12 = .int .i64 aa at e12
                simp only [putF, Act.put, List.setIfInBounds_toArray, List.set_cons_zero, List.set_cons_succ, Nat.reduceAdd, Nat.zero_add] at hK ⊢
                (try rw [e0])
                (try rw [e0] at hK)
                (try rw [e2])
                (try rw [e2] at hK)
                (try rw [e3])
                (try rw [e3] at hK)
                (try rw [e5])
                (try rw [e5] at hK)
                (try rw [e6])
                (try rw [e6] at hK)
                (try rw [e8])
                (try rw [e8] at hK)
                (try rw [e11])
                (try rw [e11] at hK)
                (try rw [e12])
                (try rw [e12] at hK)
                clear hW
                go_simp
                refine hK.out _ _ (Below.refl _ _) hG ?_
                first | with_reducible rfl | rfl
              case s14 =>
                intro f W hG hW K hK
                try dsimp only at hG
                have e0 := hW 0 (by kernel_rfl)
                change f 0 = .agg #[.int .u64 t.num, .string t.loc, .int .i64 t.iss, .slice c.p c.n c.c, .slice x.p x.n x.c, .int .u64 t.prev, .int .u64 t.org, .int .u64 t.fst, .int .i64 t.vou, .int .i64 t.posts, .slice h.p h.n h.c] at e0
                have e1 := hW 1 (by kernel_rfl)
                try dsimp only at e1
                have e2 := hW 2 (by kernel_rfl)
                change f 2 = .int .i64 vv at e2
                have e3 := hW 3 (by kernel_rfl)
                change f 3 = .agg #[.int .u64 t.num, .string t.loc, .int .i64 t.iss, .slice c.p c.n c.c, .slice x.p x.n x.c, .int .u64 t.prev, .int .u64 t.org, .int .u64 t.fst, .int .i64 t.vou, .int .i64 t.posts, .slice h.p h.n h.c] at e3
                have e4 := hW 4 (by kernel_rfl)
                try dsimp only at e4
                have e5 := hW 5 (by kernel_rfl)
                change f 5 = .int .i64 aa at e5
                have e6 := hW 6 (by kernel_rfl)
                change f 6 = .agg #[.int .u64 n, .string t.loc, .int .i64 on, .slice q' k' c', .slice p2 m2 c2, .int .u64 t.num, .int .u64 t.org, .int .u64 n, .int .i64 0, .int .i64 1, .slice none 0 0] at e6
                have e7 := hW 7 (by kernel_rfl)
                try dsimp only at e7
                have e8 := hW 8 (by kernel_rfl)
                change f 8 = .int .i64 ww at e8
                have e9 := hW 9 (by kernel_rfl)
                change f 9 = .agg #[.int .u64 n, .string t.loc, .int .i64 on, .slice q' k' c', .slice p2 m2 c2, .int .u64 t.num, .int .u64 t.org, .int .u64 n, .int .i64 0, .int .i64 1, .slice none 0 0] at e9
                have e10 := hW 10 (by kernel_rfl)
                change f 10 = .int .i64 bb at e10
                have e11 := hW 11 (by kernel_rfl)
                change f 11 = .int .i64 vv at e11
                have e12 := hW 12 (by kernel_rfl)
                change f 12 = .int .i64 aa at e12
                have e13 := hW 13 (by kernel_rfl)
                change f 13 = .int .i64 ww at e13
                simp only [putF, Act.put, List.setIfInBounds_toArray, List.set_cons_zero, List.set_cons_succ, Nat.reduceAdd, Nat.zero_add] at hK ⊢
                (try rw [e0])
                (try rw [e0] at hK)
                (try rw [e2])
                (try rw [e2] at hK)
                (try rw [e3])
                (try rw [e3] at hK)
                (try rw [e5])
                (try rw [e5] at hK)
                (try rw [e6])
                (try rw [e6] at hK)
                (try rw [e8])
                (try rw [e8] at hK)
                (try rw [e9])
                (try rw [e9] at hK)
                (try rw [e10])
                (try rw [e10] at hK)
                (try rw [e11])
                (try rw [e11] at hK)
                (try rw [e12])
                (try rw [e12] at hK)
                (try rw [e13])
                (try rw [e13] at hK)
                clear hW
                go_simp
                refine hK.out _ _ (Below.refl _ _) hG ?_
                first | with_reducible rfl | rfl
            case iD =>
              intro f W hG hR
              try dsimp only at hG
              have r0 := hR 0 (by decide)
              change f 0 = .agg #[.int .u64 t.num, .string t.loc, .int .i64 t.iss, .slice c.p c.n c.c, .slice x.p x.n x.c, .int .u64 t.prev, .int .u64 t.org, .int .u64 t.fst, .int .i64 t.vou, .int .i64 t.posts, .slice h.p h.n h.c] at r0
              have r1 := hR 1 (by decide)
              try dsimp only at r1
              have r2 := hR 2 (by decide)
              change f 2 = .int .i64 vv at r2
              have r3 := hR 3 (by decide)
              change f 3 = .agg #[.int .u64 t.num, .string t.loc, .int .i64 t.iss, .slice c.p c.n c.c, .slice x.p x.n x.c, .int .u64 t.prev, .int .u64 t.org, .int .u64 t.fst, .int .i64 t.vou, .int .i64 t.posts, .slice h.p h.n h.c] at r3
              have r4 := hR 4 (by decide)
              try dsimp only at r4
              have r5 := hR 5 (by decide)
              change f 5 = .int .i64 aa at r5
              have r6 := hR 6 (by decide)
              change f 6 = .agg #[.int .u64 n, .string t.loc, .int .i64 on, .slice q' k' c', .slice p2 m2 c2, .int .u64 t.num, .int .u64 t.org, .int .u64 n, .int .i64 0, .int .i64 1, .slice none 0 0] at r6
              have r7 := hR 7 (by decide)
              try dsimp only at r7
              have r8 := hR 8 (by decide)
              change f 8 = .int .i64 ww at r8
              have r9 := hR 9 (by decide)
              change f 9 = .agg #[.int .u64 n, .string t.loc, .int .i64 on, .slice q' k' c', .slice p2 m2 c2, .int .u64 t.num, .int .u64 t.org, .int .u64 n, .int .i64 0, .int .i64 1, .slice none 0 0] at r9
              have r10 := hR 10 (by decide)
              change f 10 = .int .i64 bb at r10
              have r11 := hR 11 (by decide)
              change f 11 = .int .i64 vv at r11
              have r12 := hR 12 (by decide)
              change f 12 = .int .i64 aa at r12
              have r13 := hR 13 (by decide)
              change f 13 = .int .i64 ww at r13
              have r14 := hR 14 (by decide)
              change f 14 = .int .i64 bb at r14
              clear hR
              simp only [putF, Act.put, List.setIfInBounds_toArray, List.set_cons_zero, List.set_cons_succ, Nat.reduceAdd, Nat.zero_add]
              (try rw [r0])
              (try rw [r2])
              (try rw [r3])
              (try rw [r5])
              (try rw [r6])
              (try rw [r8])
              (try rw [r9])
              (try rw [r10])
              (try rw [r11])
              (try rw [r12])
              (try rw [r13])
              (try rw [r14])
              have HBB := Lib.hid hG
              clear hG r0 r1 r2 r3 r4 r5 r6 r7 r8 r9 r10 r11 r12 r13 r14
              generalize W = w9 at *
              have HOW5 := Lib.hid (recs_below HOW4.out HBB.out); have HT4 := Lib.hid (HT3.out.below HBB.out); have HO3 := Lib.hid (recs_below HO2.out HBB.out)
              have HR18 := Lib.hid ((HBB.out.block _ (block_lt HR18.out)).trans HR18.out); have HR19 := Lib.hid ((HBB.out.block _ (block_lt HR19.out)).trans HR19.out)
              have HR0 := Lib.hid ((HBB.out.block _ (block_lt HR0.out)).trans HR0.out); have HB0 := Lib.hid (HB0.out.trans (HBB.out.mono HB0.out.size))
              have HTS := Lib.hid (HTS.out.below HBB.out); have HFS := Lib.hid (HFS.out.below HBB.out); have HXS := Lib.hid (HXS.out.below HBB.out)
              clear HBB HVL HFR HVX HTXX HOW4 HT3 HO2
              obtain ⟨hv1, hv2⟩ := HV1.out; obtain ⟨ha1, ha2⟩ := HA1.out; obtain ⟨hw1, hw2⟩ := HW1.out; obtain ⟨hb1, hb2⟩ := HB1.out
              have HPE : Hid (0 ≤ pen ∧ pen ≤ 1000000000000) := Lib.hid (by
                have h1 := HSB.out
                unfold Tkt.someB at h1
                simp only [Bool.and_eq_true, decide_eq_true_eq] at h1
                exact h1)
              obtain ⟨hp1, hp2⟩ := HPE.out
              go_upto_region 15 with fail
              have HOF24 : Hid (Off w9.heap.size tc ⟨a1, k1, b1⟩ ⟨a2, k2, b2⟩ ⟨a3, k3, b3⟩) := Lib.hid (Off.of_old HT4.out (Nat.le_refl _))
              have HR24 := Lib.hid (new_rowW w9 (.cells #[.int .i64 on, .int .u64 n, .int .i64 1, .int .i64 5, .int .i64 0, .int .i64 (vv - ww), .int .i64 0, .int .i64 (aa - bb), .int .i64 (-pen), .int .i64 0] 59 (0, 0)) _ rfl)
              have HBB := Lib.hid ((Below.refl w9.heap.size w9).alloc (Nat.le_refl _) (.cells #[.int .i64 on, .int .u64 n, .int .i64 1, .int .i64 5, .int .i64 0, .int .i64 (vv - ww), .int .i64 0, .int .i64 (aa - bb), .int .i64 (-pen), .int .i64 0] 59 (0, 0)))
              have HG24 : Hid (g19 < w9.heap.size ∧ g18 < g19 ∧ w.heap.size < g18) := Lib.hid ⟨block_lt HR19.out, Nat.lt_of_lt_of_le HG18.out.2 HN19.out, HG18.out.1⟩
              have HOW6 := Lib.hid (recs_below HOW5.out HBB.out); have HT5 := Lib.hid (HT4.out.below HBB.out); have HO4 := Lib.hid (recs_below HO3.out HBB.out)
              have HR18 := Lib.hid ((HBB.out.block _ (block_lt HR18.out)).trans HR18.out); have HR19 := Lib.hid ((HBB.out.block _ (block_lt HR19.out)).trans HR19.out)
              have HB0 := Lib.hid (HB0.out.trans (HBB.out.mono HB0.out.size))
              clear HBB HOW5 HT4 HO3 HR0 HTS HFS HXS hv1 hv2 ha1 ha2 hw1 hw2 hb1 hb2 hp1 hp2
              generalize w9.alloc (.cells #[.int .i64 on, .int .u64 n, .int .i64 1, .int .i64 5, .int .i64 0, .int .i64 (vv - ww), .int .i64 0, .int .i64 (aa - bb), .int .i64 (-pen), .int .i64 0] 59 (0, 0)) = wa at *
              generalize w9.heap.size = g24 at *
              obtain ⟨need, hneed⟩ : ∃ k, ww + bb + pen - vv - aa = k := ⟨_, rfl⟩
              have HND : Hid (Dk.needX t pen fl xs = need) := Lib.hid (by unfold Dk.needX; rw [HWW.out, HBB2.out, HVV.out, HAA.out]; exact hneed)
              have HNE2 := Lib.hid hneed
              clear hneed
              have HAL : Hid (∀ W po no co, LS i64C 1 W (.slice po no co) [ww, bb, pen, -vv, -aa] → no ≤ 5 → Calls Try.prog 30 #[.slice po no co] W fun e w' => e = .returned (.int .i64 need) ∧ W = w') := Lib.hid (fun W po no co hl hn => by
                have h1 := HV1.out; have h2 := HA1.out; have h3 := HW1.out; have h4 := HB1.out; have h5 := HPE.out
                have h6 := dall_any [ww, bb, pen, -vv, -aa] po no co W hl (by intro y hy; simp at hy; rcases hy with rfl | rfl | rfl | rfl | rfl <;> omega) hn
                rwa [show Dk.allN [ww, bb, pen, -vv, -aa] = need by have := HNE2.out; simp [Dk.allN]; omega] at h6)
              have HLS : Hid (∀ W : World, LS i64C 1 (W.alloc (.cells #[.int .i64 ww, .int .i64 bb, .int .i64 pen, .int .i64 (-vv), .int .i64 (-aa)] 2 (0, 0))) (.slice (some ⟨W.heap.size, 0, none⟩) 5 5) [ww, bb, pen, -vv, -aa]) := Lib.hid (fun W => ls_rowG (enc := i64C) (l := [ww, bb, pen, -vv, -aa]) (new_rowW W (.cells #[.int .i64 ww, .int .i64 bb, .int .i64 pen, .int .i64 (-vv), .int .i64 (-aa)] 2 (0, 0)) _ rfl) rfl (fun _ => rfl) (by decide) (by simp [maxLen]))
              obtain ⟨hv1, hv2⟩ := HV1.out; obtain ⟨ha1, ha2⟩ := HA1.out
              go_wp2_with fail
              clear hv1 hv2 ha1 ha2
              refine (HAL.out _ _ _ _ (HLS.out wa) (by omega)).mono ?_
              rintro e wx ⟨rfl, hw⟩
              subst hw
              have HBB := Lib.hid ((Below.refl wa.heap.size wa).alloc (Nat.le_refl _) (.cells #[.int .i64 ww, .int .i64 bb, .int .i64 pen, .int .i64 (-vv), .int .i64 (-aa)] 2 (0, 0)))
              generalize wa.alloc (.cells #[.int .i64 ww, .int .i64 bb, .int .i64 pen, .int .i64 (-vv), .int .i64 (-aa)] 2 (0, 0)) = wb at *
              clear HAL HLS
              have HOW7 := Lib.hid (recs_below HOW6.out HBB.out); have HT6 := Lib.hid (HT5.out.below HBB.out); have HO5 := Lib.hid (recs_below HO4.out HBB.out)
              have HR18 := Lib.hid ((HBB.out.block _ (block_lt HR18.out)).trans HR18.out); have HR19 := Lib.hid ((HBB.out.block _ (block_lt HR19.out)).trans HR19.out); have HR24 := Lib.hid ((HBB.out.block _ (block_lt HR24.out)).trans HR24.out)
              have HB0 := Lib.hid (HB0.out.trans (HBB.out.mono HB0.out.size))
              clear HBB HOW6 HT5 HO4
              have hz24 := fun j => frozen_of_row wb g24 j _ _ HR24.out
              have hz19 := fun j => frozen_of_row wb g19 j _ _ HR19.out
              have hc24 := fun j => cell_of_row wb g24 j _ _ _ HR24.out
              have hc19 := fun j => cell_of_row wb g19 j _ _ _ HR19.out
              have hn1 : -20000000000000 ≤ need ∧ need ≤ 20000000000000 := by have h1 := HNE2.out; have h2 := HV1.out; have h3 := HA1.out; have h4 := HW1.out; have h5 := HB1.out; have h6 := HPE.out; omega
              obtain ⟨hn1, hn2⟩ := hn1
              by_cases hnd : 0 < need
              · have HRC2 : Hid (R = ([tc, Dk.xchT t n on 0 fl xs], [⟨on, n, 1, 5, need, vv - ww, 0, aa - bb, -pen, 0⟩], 0)) := Lib.hid (by rw [HRR.out]; unfold Dk.exchP; rw [HND.out, if_pos hnd, if_pos hnd, if_pos hnd, HVV.out, HWW.out, HAA.out, HBB2.out])
                go_upto_region 19 with fail
                clear hz24 hz19 hc24 hc19
                have ho1 := (Only.refl g24 wb).setCell 4 (.int .i64 need)
                have HOW8 := Lib.hid (recs_only HOW7.out (own_neT HOW7.out HR24.out (by decide)) ho1); have HO6 := Lib.hid (recs_only HO5.out (own_neT HO5.out HR24.out (by decide)) ho1); have HT7 := Lib.hid (HT6.out.only HOF24.out ho1)
                have HR18 := Lib.hid ((ho1.block _ (block_lt HR18.out) (by have := HG24.out; omega)).trans HR18.out); have HR19 := Lib.hid ((ho1.block _ (block_lt HR19.out) (by have := HG24.out; omega)).trans HR19.out)
                have HR24 := Lib.hid (row_put1 HR24.out 4 (.int .i64 need))
                have HB0 := Lib.hid (Only.below HB0.out (by have := HG24.out; omega) HB0.out.size ho1)
                clear ho1 HOW7 HO5 HT6
                generalize wb.setCell ⟨g24, 4, none⟩ (.int .i64 need) = wc at *
                refine wp_region_rel (T := fun A B => Below A.heap.size A B) (G := fun W => Below wc.heap.size wc W) (R := fun k => match k with | 0 => fun v _ => v = .agg #[.int .u64 tc.num, .string tc.loc, .int .i64 tc.iss, .slice a1 k1 b1, .slice a2 k2 b2, .int .u64 tc.prev, .int .u64 tc.org, .int .u64 tc.fst, .int .i64 tc.vou, .int .i64 tc.posts, .slice a3 k3 b3] | 1 => fun v _ => v = .agg #[.int .u64 n, .string t.loc, .int .i64 on, .slice q' k' c', .slice p2 m2 c2, .int .u64 t.num, .int .u64 t.org, .int .u64 n, .int .i64 0, .int .i64 1, .slice none 0 0] | 2 => fun v W => ∃ g, v = .slice (some ⟨g, 0, none⟩) 2 2 ∧ LS Tkr.cells 11 W (.slice (some ⟨g, 0, none⟩) 2 2) [(⟨tc, ⟨a1, k1, b1⟩, ⟨a2, k2, b2⟩, ⟨a3, k3, b3⟩⟩ : Tkr), ⟨Dk.xchT t n on 0 fl xs, ⟨q', k', c'⟩, ⟨p2, m2, c2⟩, ⟨none, 0, 0⟩⟩] | 3 => fun v _ => v = .agg #[.int .i64 on, .int .u64 n, .int .i64 1, .int .i64 5, .int .i64 need, .int .i64 (vv - ww), .int .i64 0, .int .i64 (aa - bb), .int .i64 (-pen), .int .i64 0] | 4 => fun v W => ∃ g, v = .slice (some ⟨g, 0, none⟩) 1 1 ∧ LS Pst.cells 10 W (.slice (some ⟨g, 0, none⟩) 1 1) [⟨on, n, 1, 5, need, vv - ww, 0, aa - bb, -pen, 0⟩] | 5 => fun v W => ∃ g, v = .slice (some ⟨g, 0, none⟩) 2 2 ∧ LS Tkr.cells 11 W (.slice (some ⟨g, 0, none⟩) 2 2) [(⟨tc, ⟨a1, k1, b1⟩, ⟨a2, k2, b2⟩, ⟨a3, k3, b3⟩⟩ : Tkr), ⟨Dk.xchT t n on 0 fl xs, ⟨q', k', c'⟩, ⟨p2, m2, c2⟩, ⟨none, 0, 0⟩⟩] | 6 => fun v W => ∃ g, v = .slice (some ⟨g, 0, none⟩) 1 1 ∧ LS Pst.cells 10 W (.slice (some ⟨g, 0, none⟩) 1 1) [⟨on, n, 1, 5, need, vv - ww, 0, aa - bb, -pen, 0⟩] | 7 => fun v _ => v = .int .i64 0 | _ => fun _ _ => True) (by kernel_rfl) (by kernel_rfl) (by kernel_rfl) ?iT ((Below.refl _ _).drew) ?iS ?iD
                case iT =>
                  intro k v A B hT h
                  match k, h with
                  | 0, h => exact h
                  | 1, h => exact h
                  | 2, h => exact (by obtain ⟨g, h1, h2⟩ := h; exact ⟨g, h1, h2.below hT⟩)
                  | 3, h => exact h
                  | 4, h => exact (by obtain ⟨g, h1, h2⟩ := h; exact ⟨g, h1, h2.below hT⟩)
                  | 5, h => exact (by obtain ⟨g, h1, h2⟩ := h; exact ⟨g, h1, h2.below hT⟩)
                  | 6, h => exact (by obtain ⟨g, h1, h2⟩ := h; exact ⟨g, h1, h2.below hT⟩)
                  | 7, h => exact h
                  | _ + 8, h => exact trivial
                case iS =>
                  refine ⟨?s0, ?s1, ?s2, ?s3, ?s4, ?s5, ?s6, ?s7, trivial⟩
                  case s0 =>
                    intro f W hG hW K hK
                    try dsimp only at hG
                    simp only [putF, Act.put, List.setIfInBounds_toArray, List.set_cons_zero, List.set_cons_succ, Nat.reduceAdd, Nat.zero_add] at hK ⊢
                    have hrw := (hG.block g18 (block_lt HR18.out)).trans HR18.out
                    obtain ⟨f1, f2⟩ := row_loT 11 hrw rfl rfl
                    clear hW
                    go_simp
                    refine hK.out _ _ (Below.refl _ _) hG ?_
                    first | with_reducible rfl | rfl
                  case s1 =>
                    intro f W hG hW K hK
                    try dsimp only at hG
                    simp only [putF, Act.put, List.setIfInBounds_toArray, List.set_cons_zero, List.set_cons_succ, Nat.reduceAdd, Nat.zero_add] at hK ⊢
                    have hrw := (hG.block g19 (block_lt HR19.out)).trans HR19.out
                    obtain ⟨f1, f2⟩ := row_loT 11 hrw rfl rfl
                    clear hW
                    go_simp
                    refine hK.out _ _ (Below.refl _ _) hG ?_
                    first | with_reducible rfl | rfl
                  case s2 =>
                    intro f W hG hW K hK
                    try dsimp only at hG
                    have e0 := hW 0 (by kernel_rfl)
                    change f 0 = .agg #[.int .u64 tc.num, .string tc.loc, .int .i64 tc.iss, .slice a1 k1 b1, .slice a2 k2 b2, .int .u64 tc.prev, .int .u64 tc.org, .int .u64 tc.fst, .int .i64 tc.vou, .int .i64 tc.posts, .slice a3 k3 b3] at e0
                    have e1 := hW 1 (by kernel_rfl)
                    change f 1 = .agg #[.int .u64 n, .string t.loc, .int .i64 on, .slice q' k' c', .slice p2 m2 c2, .int .u64 t.num, .int .u64 t.org, .int .u64 n, .int .i64 0, .int .i64 1, .slice none 0 0] at e1
                    simp only [putF, Act.put, List.setIfInBounds_toArray, List.set_cons_zero, List.set_cons_succ, Nat.reduceAdd, Nat.zero_add] at hK ⊢
                    (try rw [e0])
                    (try rw [e0] at hK)
                    (try rw [e1])
                    (try rw [e1] at hK)
                    have hls := ls_rowG (enc := Tkr.cells) (l := [(⟨tc, ⟨a1, k1, b1⟩, ⟨a2, k2, b2⟩, ⟨a3, k3, b3⟩⟩ : Tkr), ⟨Dk.xchT t n on 0 fl xs, ⟨q', k', c'⟩, ⟨p2, m2, c2⟩, ⟨none, 0, 0⟩⟩]) (new_rowW W (.cells #[.int .u64 tc.num, .string tc.loc, .int .i64 tc.iss, .slice a1 k1 b1, .slice a2 k2 b2, .int .u64 tc.prev, .int .u64 tc.org, .int .u64 tc.fst, .int .i64 tc.vou, .int .i64 tc.posts, .slice a3 k3 b3, .int .u64 n, .string t.loc, .int .i64 on, .slice q' k' c', .slice p2 m2 c2, .int .u64 t.num, .int .u64 t.org, .int .u64 n, .int .i64 0, .int .i64 1, .slice none 0 0] 45 (0, 0)) _ rfl) rfl Tkr.cells_length (by decide) (by simp [maxLen])
                    clear hW
                    go_simp
                    refine hK.out _ _ ((Below.refl _ _).alloc (Nat.le_refl _) _) (hG.alloc hG.size _) ?_
                    exact ⟨W.heap.size, rfl, hls⟩
                  case s3 =>
                    intro f W hG hW K hK
                    try dsimp only at hG
                    simp only [putF, Act.put, List.setIfInBounds_toArray, List.set_cons_zero, List.set_cons_succ, Nat.reduceAdd, Nat.zero_add] at hK ⊢
                    have hrw := (hG.block g24 (block_lt HR24.out)).trans HR24.out
                    have kc := fun j => cell_of_row W g24 j _ _ _ hrw
                    clear hW
                    go_simp
                    refine hK.out _ _ (Below.refl _ _) hG ?_
                    first | with_reducible rfl | rfl
                  case s4 =>
                    intro f W hG hW K hK
                    try dsimp only at hG
                    have e3 := hW 3 (by kernel_rfl)
                    change f 3 = .agg #[.int .i64 on, .int .u64 n, .int .i64 1, .int .i64 5, .int .i64 need, .int .i64 (vv - ww), .int .i64 0, .int .i64 (aa - bb), .int .i64 (-pen), .int .i64 0] at e3
                    simp only [putF, Act.put, List.setIfInBounds_toArray, List.set_cons_zero, List.set_cons_succ, Nat.reduceAdd, Nat.zero_add] at hK ⊢
                    (try rw [e3])
                    (try rw [e3] at hK)
                    have hls := ls_rowG (enc := Pst.cells) (n := 10) (l := [⟨on, n, 1, 5, need, vv - ww, 0, aa - bb, -pen, 0⟩]) (new_rowW W (.cells #[.int .i64 on, .int .u64 n, .int .i64 1, .int .i64 5, .int .i64 need, .int .i64 (vv - ww), .int .i64 0, .int .i64 (aa - bb), .int .i64 (-pen), .int .i64 0] 59 (0, 0)) _ rfl) rfl (fun _ => rfl) (by decide) (by simp [maxLen])
                    clear hW
                    go_simp
                    refine hK.out _ _ ((Below.refl _ _).alloc (Nat.le_refl _) _) (hG.alloc hG.size _) ?_
                    exact ⟨W.heap.size, rfl, hls⟩
                  case s5 =>
                    intro f W hG hW K hK
                    try dsimp only at hG
                    have e0 := hW 0 (by kernel_rfl)
                    change f 0 = .agg #[.int .u64 tc.num, .string tc.loc, .int .i64 tc.iss, .slice a1 k1 b1, .slice a2 k2 b2, .int .u64 tc.prev, .int .u64 tc.org, .int .u64 tc.fst, .int .i64 tc.vou, .int .i64 tc.posts, .slice a3 k3 b3] at e0
                    have e1 := hW 1 (by kernel_rfl)
                    change f 1 = .agg #[.int .u64 n, .string t.loc, .int .i64 on, .slice q' k' c', .slice p2 m2 c2, .int .u64 t.num, .int .u64 t.org, .int .u64 n, .int .i64 0, .int .i64 1, .slice none 0 0] at e1
                    have e2 := hW 2 (by kernel_rfl)
                    try dsimp only at e2
                    simp only [putF, Act.put, List.setIfInBounds_toArray, List.set_cons_zero, List.set_cons_succ, Nat.reduceAdd, Nat.zero_add] at hK ⊢
                    (try rw [e0])
                    (try rw [e0] at hK)
                    (try rw [e1])
                    (try rw [e1] at hK)
                    clear hW
                    go_simp
                    refine hK.out _ _ (Below.refl _ _) hG ?_
                    exact e2
                  case s6 =>
                    intro f W hG hW K hK
                    try dsimp only at hG
                    have e0 := hW 0 (by kernel_rfl)
                    change f 0 = .agg #[.int .u64 tc.num, .string tc.loc, .int .i64 tc.iss, .slice a1 k1 b1, .slice a2 k2 b2, .int .u64 tc.prev, .int .u64 tc.org, .int .u64 tc.fst, .int .i64 tc.vou, .int .i64 tc.posts, .slice a3 k3 b3] at e0
                    have e1 := hW 1 (by kernel_rfl)
                    change f 1 = .agg #[.int .u64 n, .string t.loc, .int .i64 on, .slice q' k' c', .slice p2 m2 c2, .int .u64 t.num, .int .u64 t.org, .int .u64 n, .int .i64 0, .int .i64 1, .slice none 0 0] at e1
                    have e2 := hW 2 (by kernel_rfl)
                    try dsimp only at e2
                    have e3 := hW 3 (by kernel_rfl)
                    change f 3 = .agg #[.int .i64 on, .int .u64 n, .int .i64 1, .int .i64 5, .int .i64 need, .int .i64 (vv - ww), .int .i64 0, .int .i64 (aa - bb), .int .i64 (-pen), .int .i64 0] at e3
                    have e4 := hW 4 (by kernel_rfl)
                    try dsimp only at e4
                    have e5 := hW 5 (by kernel_rfl)
                    try dsimp only at e5
                    simp only [putF, Act.put, List.setIfInBounds_toArray, List.set_cons_zero, List.set_cons_succ, Nat.reduceAdd, Nat.zero_add] at hK ⊢
                    (try rw [e0])
                    (try rw [e0] at hK)
                    (try rw [e1])
                    (try rw [e1] at hK)
                    (try rw [e3])
                    (try rw [e3] at hK)
                    clear hW
                    go_simp
                    refine hK.out _ _ (Below.refl _ _) hG ?_
                    exact e4
                  case s7 =>
                    intro f W hG hW K hK
                    try dsimp only at hG
                    have e0 := hW 0 (by kernel_rfl)
                    change f 0 = .agg #[.int .u64 tc.num, .string tc.loc, .int .i64 tc.iss, .slice a1 k1 b1, .slice a2 k2 b2, .int .u64 tc.prev, .int .u64 tc.org, .int .u64 tc.fst, .int .i64 tc.vou, .int .i64 tc.posts, .slice a3 k3 b3] at e0
                    have e1 := hW 1 (by kernel_rfl)
                    change f 1 = .agg #[.int .u64 n, .string t.loc, .int .i64 on, .slice q' k' c', .slice p2 m2 c2, .int .u64 t.num, .int .u64 t.org, .int .u64 n, .int .i64 0, .int .i64 1, .slice none 0 0] at e1
                    have e2 := hW 2 (by kernel_rfl)
                    try dsimp only at e2
                    have e3 := hW 3 (by kernel_rfl)
                    change f 3 = .agg #[.int .i64 on, .int .u64 n, .int .i64 1, .int .i64 5, .int .i64 need, .int .i64 (vv - ww), .int .i64 0, .int .i64 (aa - bb), .int .i64 (-pen), .int .i64 0] at e3
                    have e4 := hW 4 (by kernel_rfl)
                    try dsimp only at e4
                    have e5 := hW 5 (by kernel_rfl)
                    try dsimp only at e5
                    have e6 := hW 6 (by kernel_rfl)
                    try dsimp only at e6
                    simp only [putF, Act.put, List.setIfInBounds_toArray, List.set_cons_zero, List.set_cons_succ, Nat.reduceAdd, Nat.zero_add] at hK ⊢
                    (try rw [e0])
                    (try rw [e0] at hK)
                    (try rw [e1])
                    (try rw [e1] at hK)
                    (try rw [e3])
                    (try rw [e3] at hK)
                    clear hW
                    go_simp
                    refine hK.out _ _ (Below.refl _ _) hG ?_
                    first | with_reducible rfl | rfl
                case iD =>
                  intro f W hG hR
                  try dsimp only at hG
                  have r0 := hR 0 (by decide)
                  change f 0 = .agg #[.int .u64 tc.num, .string tc.loc, .int .i64 tc.iss, .slice a1 k1 b1, .slice a2 k2 b2, .int .u64 tc.prev, .int .u64 tc.org, .int .u64 tc.fst, .int .i64 tc.vou, .int .i64 tc.posts, .slice a3 k3 b3] at r0
                  have r1 := hR 1 (by decide)
                  change f 1 = .agg #[.int .u64 n, .string t.loc, .int .i64 on, .slice q' k' c', .slice p2 m2 c2, .int .u64 t.num, .int .u64 t.org, .int .u64 n, .int .i64 0, .int .i64 1, .slice none 0 0] at r1
                  have r2 := hR 2 (by decide)
                  try dsimp only at r2
                  have r3 := hR 3 (by decide)
                  change f 3 = .agg #[.int .i64 on, .int .u64 n, .int .i64 1, .int .i64 5, .int .i64 need, .int .i64 (vv - ww), .int .i64 0, .int .i64 (aa - bb), .int .i64 (-pen), .int .i64 0] at r3
                  have r4 := hR 4 (by decide)
                  try dsimp only at r4
                  have r5 := hR 5 (by decide)
                  try dsimp only at r5
                  have r6 := hR 6 (by decide)
                  try dsimp only at r6
                  have r7 := hR 7 (by decide)
                  change f 7 = .int .i64 0 at r7
                  clear hR
                  simp only [putF, Act.put, List.setIfInBounds_toArray, List.set_cons_zero, List.set_cons_succ, Nat.reduceAdd, Nat.zero_add]
                  (try rw [r0])
                  (try rw [r1])
                  (try rw [r3])
                  (try rw [r7])
                  have HBB := Lib.hid hG
                  obtain ⟨gt, hgt, hlt⟩ := r5
                  obtain ⟨gp, hgp, hlp⟩ := r6
                  have HLT := Lib.hid hlt; have HLP := Lib.hid hlp
                  rw [hgt, hgp]
                  clear hG hlt hlp r0 r1 r2 r3 r4 r7 hgt hgp
                  generalize W = wd at *
                  have HT8 := Lib.hid (HT7.out.below HBB.out); have HOW9 := Lib.hid (recs_below HOW8.out HBB.out); have HO7 := Lib.hid (recs_below HO6.out HBB.out)
                  have HB0 := Lib.hid (HB0.out.trans (HBB.out.mono HB0.out.size))
                  have HXW : Hid ((Dk.xchT t n on 0 fl xs).wf) := Lib.hid (Dk.xchT_wf HTT.out.wf HUN.out HON.out (by exact ⟨by omega, by omega⟩) HWC.out HWX.out)
                  clear HBB HOW8 HO6 HT7 HR18 HR19 HR24
                  go_wp2
                  refine bodyPost_ret (v := .tuple #[.slice (some ⟨gt, 0, none⟩) 2 2, .slice (some ⟨gp, 0, none⟩) 1 1, .int .i64 0]) (by simp [results, Try.results17, go_sem]) rfl ?_
                  rw [HRC2.out]
                  unfold Dk.ResT
                  refine ⟨_, _, _, rfl, ⟨HLT.out, ?_⟩, rfl, HLP.out, HB0.out⟩
                  intro y hy
                  simp only [List.mem_cons, List.not_mem_nil, or_false] at hy
                  rcases hy with rfl | rfl
                  · exact HT8.out
                  · exact ⟨LS.of_own HOW9.out Cpn.cells_length (by decide), LS.of_own HO7.out Txx.cells_length (by decide), LS.nil _, HXW.out⟩
              · have HRC2 : Hid (R = ([tc, Dk.xchT t n on (-need) fl xs], [⟨on, n, 1, 5, 0, vv - ww, 0, aa - bb, -pen, need⟩], 0)) := Lib.hid (by rw [HRR.out]; unfold Dk.exchP; rw [HND.out, if_neg hnd, if_neg hnd, if_neg hnd, HVV.out, HWW.out, HAA.out, HBB2.out])
                go_upto_region 19 with fail
                clear hz24 hz19 hc24 hc19
                have ho1 := (Only.refl g24 wb).setCell 9 (.int .i64 need)
                have HR19a := Lib.hid ((ho1.block _ (block_lt HR19.out) (by have := HG24.out; omega)).trans HR19.out)
                have hw1 := recs_only HOW7.out (own_neT HOW7.out HR24.out (by decide)) ho1
                have hx1 := recs_only HO5.out (own_neT HO5.out HR24.out (by decide)) ho1
                have ht1 := HT6.out.only HOF24.out ho1
                have hr18 := (ho1.block _ (block_lt HR18.out) (by have := HG24.out; omega)).trans HR18.out
                have hr24 := row_put1 HR24.out 9 (.int .i64 need)
                have hb1 := Only.below HB0.out (by have := HG24.out; omega) HB0.out.size ho1
                generalize wb.setCell ⟨g24, 9, none⟩ (.int .i64 need) = wy at *
                have ho2 := (Only.refl g19 wy).setCell 8 (.int .i64 (-need))
                have HOW8 := Lib.hid (recs_only hw1 (own_neT hw1 HR19a.out (by decide)) ho2); have HO6 := Lib.hid (recs_only hx1 (own_neT hx1 HR19a.out (by decide)) ho2); have HT7 := Lib.hid (ht1.only HOF19.out ho2)
                have HR18 := Lib.hid ((ho2.block _ (block_lt hr18) (by have := HG24.out; omega)).trans hr18); have HR24 := Lib.hid ((ho2.block _ (block_lt hr24) (by have := HG24.out; omega)).trans hr24)
                have HR19 := Lib.hid (row_put1 HR19a.out 8 (.int .i64 (-need)))
                have HB0 := Lib.hid (Only.below hb1 (by have := HG24.out; omega) hb1.size ho2)
                clear ho1 ho2 HR19a hw1 hx1 ht1 hr18 hr24 hb1 HOW7 HO5 HT6
                generalize wy.setCell ⟨g19, 8, none⟩ (.int .i64 (-need)) = wc at *
                refine wp_region_rel (T := fun A B => Below A.heap.size A B) (G := fun W => Below wc.heap.size wc W) (R := fun k => match k with | 0 => fun v _ => v = .agg #[.int .u64 tc.num, .string tc.loc, .int .i64 tc.iss, .slice a1 k1 b1, .slice a2 k2 b2, .int .u64 tc.prev, .int .u64 tc.org, .int .u64 tc.fst, .int .i64 tc.vou, .int .i64 tc.posts, .slice a3 k3 b3] | 1 => fun v _ => v = .agg #[.int .u64 n, .string t.loc, .int .i64 on, .slice q' k' c', .slice p2 m2 c2, .int .u64 t.num, .int .u64 t.org, .int .u64 n, .int .i64 (-need), .int .i64 1, .slice none 0 0] | 2 => fun v W => ∃ g, v = .slice (some ⟨g, 0, none⟩) 2 2 ∧ LS Tkr.cells 11 W (.slice (some ⟨g, 0, none⟩) 2 2) [(⟨tc, ⟨a1, k1, b1⟩, ⟨a2, k2, b2⟩, ⟨a3, k3, b3⟩⟩ : Tkr), ⟨Dk.xchT t n on (-need) fl xs, ⟨q', k', c'⟩, ⟨p2, m2, c2⟩, ⟨none, 0, 0⟩⟩] | 3 => fun v _ => v = .agg #[.int .i64 on, .int .u64 n, .int .i64 1, .int .i64 5, .int .i64 0, .int .i64 (vv - ww), .int .i64 0, .int .i64 (aa - bb), .int .i64 (-pen), .int .i64 need] | 4 => fun v W => ∃ g, v = .slice (some ⟨g, 0, none⟩) 1 1 ∧ LS Pst.cells 10 W (.slice (some ⟨g, 0, none⟩) 1 1) [⟨on, n, 1, 5, 0, vv - ww, 0, aa - bb, -pen, need⟩] | 5 => fun v W => ∃ g, v = .slice (some ⟨g, 0, none⟩) 2 2 ∧ LS Tkr.cells 11 W (.slice (some ⟨g, 0, none⟩) 2 2) [(⟨tc, ⟨a1, k1, b1⟩, ⟨a2, k2, b2⟩, ⟨a3, k3, b3⟩⟩ : Tkr), ⟨Dk.xchT t n on (-need) fl xs, ⟨q', k', c'⟩, ⟨p2, m2, c2⟩, ⟨none, 0, 0⟩⟩] | 6 => fun v W => ∃ g, v = .slice (some ⟨g, 0, none⟩) 1 1 ∧ LS Pst.cells 10 W (.slice (some ⟨g, 0, none⟩) 1 1) [⟨on, n, 1, 5, 0, vv - ww, 0, aa - bb, -pen, need⟩] | 7 => fun v _ => v = .int .i64 0 | _ => fun _ _ => True) (by kernel_rfl) (by kernel_rfl) (by kernel_rfl) ?iT ((Below.refl _ _).drew) ?iS ?iD
                case iT =>
                  intro k v A B hT h
                  match k, h with
                  | 0, h => exact h
                  | 1, h => exact h
                  | 2, h => exact (by obtain ⟨g, h1, h2⟩ := h; exact ⟨g, h1, h2.below hT⟩)
                  | 3, h => exact h
                  | 4, h => exact (by obtain ⟨g, h1, h2⟩ := h; exact ⟨g, h1, h2.below hT⟩)
                  | 5, h => exact (by obtain ⟨g, h1, h2⟩ := h; exact ⟨g, h1, h2.below hT⟩)
                  | 6, h => exact (by obtain ⟨g, h1, h2⟩ := h; exact ⟨g, h1, h2.below hT⟩)
                  | 7, h => exact h
                  | _ + 8, h => exact trivial
                case iS =>
                  refine ⟨?s0, ?s1, ?s2, ?s3, ?s4, ?s5, ?s6, ?s7, trivial⟩
                  case s0 =>
                    intro f W hG hW K hK
                    try dsimp only at hG
                    simp only [putF, Act.put, List.setIfInBounds_toArray, List.set_cons_zero, List.set_cons_succ, Nat.reduceAdd, Nat.zero_add] at hK ⊢
                    have hrw := (hG.block g18 (block_lt HR18.out)).trans HR18.out
                    obtain ⟨f1, f2⟩ := row_loT 11 hrw rfl rfl
                    clear hW
                    go_simp
                    refine hK.out _ _ (Below.refl _ _) hG ?_
                    first | with_reducible rfl | rfl
                  case s1 =>
                    intro f W hG hW K hK
                    try dsimp only at hG
                    simp only [putF, Act.put, List.setIfInBounds_toArray, List.set_cons_zero, List.set_cons_succ, Nat.reduceAdd, Nat.zero_add] at hK ⊢
                    have hrw := (hG.block g19 (block_lt HR19.out)).trans HR19.out
                    obtain ⟨f1, f2⟩ := row_loT 11 hrw rfl rfl
                    clear hW
                    go_simp
                    refine hK.out _ _ (Below.refl _ _) hG ?_
                    first | with_reducible rfl | rfl
                  case s2 =>
                    intro f W hG hW K hK
                    try dsimp only at hG
                    have e0 := hW 0 (by kernel_rfl)
                    change f 0 = .agg #[.int .u64 tc.num, .string tc.loc, .int .i64 tc.iss, .slice a1 k1 b1, .slice a2 k2 b2, .int .u64 tc.prev, .int .u64 tc.org, .int .u64 tc.fst, .int .i64 tc.vou, .int .i64 tc.posts, .slice a3 k3 b3] at e0
                    have e1 := hW 1 (by kernel_rfl)
                    change f 1 = .agg #[.int .u64 n, .string t.loc, .int .i64 on, .slice q' k' c', .slice p2 m2 c2, .int .u64 t.num, .int .u64 t.org, .int .u64 n, .int .i64 (-need), .int .i64 1, .slice none 0 0] at e1
                    simp only [putF, Act.put, List.setIfInBounds_toArray, List.set_cons_zero, List.set_cons_succ, Nat.reduceAdd, Nat.zero_add] at hK ⊢
                    (try rw [e0])
                    (try rw [e0] at hK)
                    (try rw [e1])
                    (try rw [e1] at hK)
                    have hls := ls_rowG (enc := Tkr.cells) (l := [(⟨tc, ⟨a1, k1, b1⟩, ⟨a2, k2, b2⟩, ⟨a3, k3, b3⟩⟩ : Tkr), ⟨Dk.xchT t n on (-need) fl xs, ⟨q', k', c'⟩, ⟨p2, m2, c2⟩, ⟨none, 0, 0⟩⟩]) (new_rowW W (.cells #[.int .u64 tc.num, .string tc.loc, .int .i64 tc.iss, .slice a1 k1 b1, .slice a2 k2 b2, .int .u64 tc.prev, .int .u64 tc.org, .int .u64 tc.fst, .int .i64 tc.vou, .int .i64 tc.posts, .slice a3 k3 b3, .int .u64 n, .string t.loc, .int .i64 on, .slice q' k' c', .slice p2 m2 c2, .int .u64 t.num, .int .u64 t.org, .int .u64 n, .int .i64 (-need), .int .i64 1, .slice none 0 0] 45 (0, 0)) _ rfl) rfl Tkr.cells_length (by decide) (by simp [maxLen])
                    clear hW
                    go_simp
                    refine hK.out _ _ ((Below.refl _ _).alloc (Nat.le_refl _) _) (hG.alloc hG.size _) ?_
                    exact ⟨W.heap.size, rfl, hls⟩
                  case s3 =>
                    intro f W hG hW K hK
                    try dsimp only at hG
                    simp only [putF, Act.put, List.setIfInBounds_toArray, List.set_cons_zero, List.set_cons_succ, Nat.reduceAdd, Nat.zero_add] at hK ⊢
                    have hrw := (hG.block g24 (block_lt HR24.out)).trans HR24.out
                    have kc := fun j => cell_of_row W g24 j _ _ _ hrw
                    clear hW
                    go_simp
                    refine hK.out _ _ (Below.refl _ _) hG ?_
                    first | with_reducible rfl | rfl
                  case s4 =>
                    intro f W hG hW K hK
                    try dsimp only at hG
                    have e3 := hW 3 (by kernel_rfl)
                    change f 3 = .agg #[.int .i64 on, .int .u64 n, .int .i64 1, .int .i64 5, .int .i64 0, .int .i64 (vv - ww), .int .i64 0, .int .i64 (aa - bb), .int .i64 (-pen), .int .i64 need] at e3
                    simp only [putF, Act.put, List.setIfInBounds_toArray, List.set_cons_zero, List.set_cons_succ, Nat.reduceAdd, Nat.zero_add] at hK ⊢
                    (try rw [e3])
                    (try rw [e3] at hK)
                    have hls := ls_rowG (enc := Pst.cells) (n := 10) (l := [⟨on, n, 1, 5, 0, vv - ww, 0, aa - bb, -pen, need⟩]) (new_rowW W (.cells #[.int .i64 on, .int .u64 n, .int .i64 1, .int .i64 5, .int .i64 0, .int .i64 (vv - ww), .int .i64 0, .int .i64 (aa - bb), .int .i64 (-pen), .int .i64 need] 59 (0, 0)) _ rfl) rfl (fun _ => rfl) (by decide) (by simp [maxLen])
                    clear hW
                    go_simp
                    refine hK.out _ _ ((Below.refl _ _).alloc (Nat.le_refl _) _) (hG.alloc hG.size _) ?_
                    exact ⟨W.heap.size, rfl, hls⟩
                  case s5 =>
                    intro f W hG hW K hK
                    try dsimp only at hG
                    have e0 := hW 0 (by kernel_rfl)
                    change f 0 = .agg #[.int .u64 tc.num, .string tc.loc, .int .i64 tc.iss, .slice a1 k1 b1, .slice a2 k2 b2, .int .u64 tc.prev, .int .u64 tc.org, .int .u64 tc.fst, .int .i64 tc.vou, .int .i64 tc.posts, .slice a3 k3 b3] at e0
                    have e1 := hW 1 (by kernel_rfl)
                    change f 1 = .agg #[.int .u64 n, .string t.loc, .int .i64 on, .slice q' k' c', .slice p2 m2 c2, .int .u64 t.num, .int .u64 t.org, .int .u64 n, .int .i64 (-need), .int .i64 1, .slice none 0 0] at e1
                    have e2 := hW 2 (by kernel_rfl)
                    try dsimp only at e2
                    simp only [putF, Act.put, List.setIfInBounds_toArray, List.set_cons_zero, List.set_cons_succ, Nat.reduceAdd, Nat.zero_add] at hK ⊢
                    (try rw [e0])
                    (try rw [e0] at hK)
                    (try rw [e1])
                    (try rw [e1] at hK)
                    clear hW
                    go_simp
                    refine hK.out _ _ (Below.refl _ _) hG ?_
                    exact e2
                  case s6 =>
                    intro f W hG hW K hK
                    try dsimp only at hG
                    have e0 := hW 0 (by kernel_rfl)
                    change f 0 = .agg #[.int .u64 tc.num, .string tc.loc, .int .i64 tc.iss, .slice a1 k1 b1, .slice a2 k2 b2, .int .u64 tc.prev, .int .u64 tc.org, .int .u64 tc.fst, .int .i64 tc.vou, .int .i64 tc.posts, .slice a3 k3 b3] at e0
                    have e1 := hW 1 (by kernel_rfl)
                    change f 1 = .agg #[.int .u64 n, .string t.loc, .int .i64 on, .slice q' k' c', .slice p2 m2 c2, .int .u64 t.num, .int .u64 t.org, .int .u64 n, .int .i64 (-need), .int .i64 1, .slice none 0 0] at e1
                    have e2 := hW 2 (by kernel_rfl)
                    try dsimp only at e2
                    have e3 := hW 3 (by kernel_rfl)
                    change f 3 = .agg #[.int .i64 on, .int .u64 n, .int .i64 1, .int .i64 5, .int .i64 0, .int .i64 (vv - ww), .int .i64 0, .int .i64 (aa - bb), .int .i64 (-pen), .int .i64 need] at e3
                    have e4 := hW 4 (by kernel_rfl)
                    try dsimp only at e4
                    have e5 := hW 5 (by kernel_rfl)
                    try dsimp only at e5
                    simp only [putF, Act.put, List.setIfInBounds_toArray, List.set_cons_zero, List.set_cons_succ, Nat.reduceAdd, Nat.zero_add] at hK ⊢
                    (try rw [e0])
                    (try rw [e0] at hK)
                    (try rw [e1])
                    (try rw [e1] at hK)
                    (try rw [e3])
                    (try rw [e3] at hK)
                    clear hW
                    go_simp
                    refine hK.out _ _ (Below.refl _ _) hG ?_
                    exact e4
                  case s7 =>
                    intro f W hG hW K hK
                    try dsimp only at hG
                    have e0 := hW 0 (by kernel_rfl)
                    change f 0 = .agg #[.int .u64 tc.num, .string tc.loc, .int .i64 tc.iss, .slice a1 k1 b1, .slice a2 k2 b2, .int .u64 tc.prev, .int .u64 tc.org, .int .u64 tc.fst, .int .i64 tc.vou, .int .i64 tc.posts, .slice a3 k3 b3] at e0
                    have e1 := hW 1 (by kernel_rfl)
                    change f 1 = .agg #[.int .u64 n, .string t.loc, .int .i64 on, .slice q' k' c', .slice p2 m2 c2, .int .u64 t.num, .int .u64 t.org, .int .u64 n, .int .i64 (-need), .int .i64 1, .slice none 0 0] at e1
                    have e2 := hW 2 (by kernel_rfl)
                    try dsimp only at e2
                    have e3 := hW 3 (by kernel_rfl)
                    change f 3 = .agg #[.int .i64 on, .int .u64 n, .int .i64 1, .int .i64 5, .int .i64 0, .int .i64 (vv - ww), .int .i64 0, .int .i64 (aa - bb), .int .i64 (-pen), .int .i64 need] at e3
                    have e4 := hW 4 (by kernel_rfl)
                    try dsimp only at e4
                    have e5 := hW 5 (by kernel_rfl)
                    try dsimp only at e5
                    have e6 := hW 6 (by kernel_rfl)
                    try dsimp only at e6
                    simp only [putF, Act.put, List.setIfInBounds_toArray, List.set_cons_zero, List.set_cons_succ, Nat.reduceAdd, Nat.zero_add] at hK ⊢
                    (try rw [e0])
                    (try rw [e0] at hK)
                    (try rw [e1])
                    (try rw [e1] at hK)
                    (try rw [e3])
                    (try rw [e3] at hK)
                    clear hW
                    go_simp
                    refine hK.out _ _ (Below.refl _ _) hG ?_
                    first | with_reducible rfl | rfl
                case iD =>
                  intro f W hG hR
                  try dsimp only at hG
                  have r0 := hR 0 (by decide)
                  change f 0 = .agg #[.int .u64 tc.num, .string tc.loc, .int .i64 tc.iss, .slice a1 k1 b1, .slice a2 k2 b2, .int .u64 tc.prev, .int .u64 tc.org, .int .u64 tc.fst, .int .i64 tc.vou, .int .i64 tc.posts, .slice a3 k3 b3] at r0
                  have r1 := hR 1 (by decide)
                  change f 1 = .agg #[.int .u64 n, .string t.loc, .int .i64 on, .slice q' k' c', .slice p2 m2 c2, .int .u64 t.num, .int .u64 t.org, .int .u64 n, .int .i64 (-need), .int .i64 1, .slice none 0 0] at r1
                  have r2 := hR 2 (by decide)
                  try dsimp only at r2
                  have r3 := hR 3 (by decide)
                  change f 3 = .agg #[.int .i64 on, .int .u64 n, .int .i64 1, .int .i64 5, .int .i64 0, .int .i64 (vv - ww), .int .i64 0, .int .i64 (aa - bb), .int .i64 (-pen), .int .i64 need] at r3
                  have r4 := hR 4 (by decide)
                  try dsimp only at r4
                  have r5 := hR 5 (by decide)
                  try dsimp only at r5
                  have r6 := hR 6 (by decide)
                  try dsimp only at r6
                  have r7 := hR 7 (by decide)
                  change f 7 = .int .i64 0 at r7
                  clear hR
                  simp only [putF, Act.put, List.setIfInBounds_toArray, List.set_cons_zero, List.set_cons_succ, Nat.reduceAdd, Nat.zero_add]
                  (try rw [r0])
                  (try rw [r1])
                  (try rw [r3])
                  (try rw [r7])
                  have HBB := Lib.hid hG
                  obtain ⟨gt, hgt, hlt⟩ := r5
                  obtain ⟨gp, hgp, hlp⟩ := r6
                  have HLT := Lib.hid hlt; have HLP := Lib.hid hlp
                  rw [hgt, hgp]
                  clear hG hlt hlp r0 r1 r2 r3 r4 r7 hgt hgp
                  generalize W = wd at *
                  have HT8 := Lib.hid (HT7.out.below HBB.out); have HOW9 := Lib.hid (recs_below HOW8.out HBB.out); have HO7 := Lib.hid (recs_below HO6.out HBB.out)
                  have HB0 := Lib.hid (HB0.out.trans (HBB.out.mono HB0.out.size))
                  have HXW : Hid ((Dk.xchT t n on (-need) fl xs).wf) := Lib.hid (Dk.xchT_wf HTT.out.wf HUN.out HON.out (by exact ⟨by omega, by omega⟩) HWC.out HWX.out)
                  clear HBB HOW8 HO6 HT7 HR18 HR19 HR24
                  go_wp2
                  refine bodyPost_ret (v := .tuple #[.slice (some ⟨gt, 0, none⟩) 2 2, .slice (some ⟨gp, 0, none⟩) 1 1, .int .i64 0]) (by simp [results, Try.results17, go_sem]) rfl ?_
                  rw [HRC2.out]
                  unfold Dk.ResT
                  refine ⟨_, _, _, rfl, ⟨HLT.out, ?_⟩, rfl, HLP.out, HB0.out⟩
                  intro y hy
                  simp only [List.mem_cons, List.not_mem_nil, or_false] at hy
                  rcases hy with rfl | rfl
                  · exact HT8.out
                  · exact ⟨LS.of_own HOW9.out Cpn.cells_length (by decide), LS.of_own HO7.out Txx.cells_length (by decide), LS.nil _, HXW.out⟩
        · have hne : (ec != 0) = true := bne_iff_ne.2 h0
          have HR2 : Hid (R = ([], [], ec)) := Lib.hid (by rw [← HRV.out]; unfold Dk.exchD; rw [if_neg (by rw [HGD.out]; decide), if_neg (by rw [HE.out, HQG.out]; decide), if_neg (by rw [HBQ.out]; decide), HRC.out, if_pos h0])
          clear h0
          have HBB := Lib.hid HP.out.2
          go_upto_region 11 with fail
          clear th h1n h1c
          have HR0 := Lib.hid ((HBB.out.block _ (block_lt HR0.out)).trans HR0.out); have HB0 := Lib.hid (HB0.out.trans (HBB.out.mono HB0.out.size))
          have HTS := Lib.hid (HTS.out.below HBB.out); have HFS := Lib.hid (HFS.out.below HBB.out); have HXS := Lib.hid (HXS.out.below HBB.out)
          clear HBB HP
          generalize (w6.alloc (.cells #[.int .u64 0, .string ⟨#[]⟩, .int .i64 0, .slice none 0 0, .slice none 0 0, .int .u64 0, .int .u64 0, .int .u64 0, .int .i64 0, .int .i64 0, .slice none 0 0] 45 (0, 0))).setCells w6.heap.size 0 [.int .u64 tc.num, .string tc.loc, .int .i64 tc.iss, .slice a1 k1 b1, .slice a2 k2 b2, .int .u64 tc.prev, .int .u64 tc.org, .int .u64 tc.fst, .int .i64 tc.vou, .int .i64 tc.posts, .slice a3 k3 b3] = w7 at *
          go_wp2
          refine bodyPost_ret (v := .tuple #[.slice none 0 0, .slice none 0 0, .int .i64 ec]) (by simp [results, Try.results17, go_sem]) rfl ?_
          rw [HR2.out]
          unfold Dk.ResT
          exact ⟨.slice none 0 0, .slice none 0 0, [], rfl, ⟨LS.nil _, fun y hy => by cases hy⟩, rfl, LS.nil _, HB0.out⟩
  · have HR2 : Hid (R = ([], [], 15)) := Lib.hid (by rw [← HRV.out]; unfold Dk.exchD; rw [if_neg (by rw [HGD.out]; decide), if_pos (.inl (by rw [HE.out]; decide))])
    go_wp2
    refine bodyPost_ret (v := .tuple #[.slice none 0 0, .slice none 0 0, .int .i64 15]) (by simp [results, Try.results17, go_sem]) rfl ?_
    rw [HR2.out]
    unfold Dk.ResT
    exact ⟨.slice none 0 0, .slice none 0 0, [], rfl, ⟨LS.nil _, fun y hy => by cases hy⟩, rfl, LS.nil _, HB0.out⟩
end Go.Proofs.Ytadabjkhiaidcaa
