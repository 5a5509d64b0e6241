/- Contract: desk.change at the closure Refund$1. -/
import Derived.Test.YtadabjkhiaidcaaDsl37

set_option linter.unusedVariables false
set_option linter.unusedSimpArgs false
namespace Go.Proofs.Ytadabjkhiaidcaa
open Go.RowKit

attribute [local go_sem ↓] Tk_execLoad Tk_execStore Cp_execLoad Cp_execStore

attribute [local go_sem] Tk_load Tk_store Cp_load Cp_store loL_drew okL_drew there_sc World.there_drew

set_option maxRecDepth 8000 in
set_option maxHeartbeats 8000000 in
theorem dchBack_any (t : Tk) (c x h : Sl) (on tq wi : Int) (hon : I64 on) (hwi : U64 wi) (w : World) (ts : TS w t c x h) (hlen : t.cs.length ≤ 1000 ∧ t.hs.length ≤ 1000) : Calls Try.prog 45 #[.agg #[.int .u64 t.num, .string t.loc, .int .i64 t.iss, .slice c.p c.n c.c, .slice x.p x.n x.c, .int .u64 t.prev, .int .u64 t.org, .int .u64 t.fst, .int .i64 t.vou, .int .i64 t.posts, .slice h.p h.n h.c], .int .i64 on, .int .i64 tq, .int .u64 wi, .func (.func 52) #[] #[]] w fun e w' => ∃ c' x' h' : Sl, e = .returned (.tuple #[.agg #[.int .u64 (Dk.chgD (Dk.selBack) on tq wi t).1.num, .string (Dk.chgD (Dk.selBack) on tq wi t).1.loc, .int .i64 (Dk.chgD (Dk.selBack) on tq wi t).1.iss, .slice c'.p c'.n c'.c, .slice x'.p x'.n x'.c, .int .u64 (Dk.chgD (Dk.selBack) on tq wi t).1.prev, .int .u64 (Dk.chgD (Dk.selBack) on tq wi t).1.org, .int .u64 (Dk.chgD (Dk.selBack) on tq wi t).1.fst, .int .i64 (Dk.chgD (Dk.selBack) on tq wi t).1.vou, .int .i64 (Dk.chgD (Dk.selBack) on tq wi t).1.posts, .slice h'.p h'.n h'.c], .int .i64 (Dk.chgD (Dk.selBack) on tq wi t).2]) ∧ TS w' (Dk.chgD (Dk.selBack) on tq wi t).1 c' x' h' ∧ Below w.heap.size w w' ∧ Fresh w.heap.size t c x h w' (Dk.chgD (Dk.selBack) on tq wi t).1 c' x' h' := by
  have HSE : Hid (∀ (i : Int) (y : Cpn) (W : World), Below w.heap.size w W → Calls Try.prog 52 (#[.int .i64 i, .agg #[.int .i64 y.fl, .int .i64 y.dy, .int .i64 y.va, .int .i64 y.st, .int .i64 y.ho, .int .u64 y.nx]] ++ #[]) W fun e w' => e = .returned (.bool ((Dk.selBack) i y)) ∧ Below W.heap.size W w') := Lib.hid (fun i y W hW => back1_any i y W)
  obtain ⟨sel, hsel⟩ : ∃ sel : Int → Cpn → Bool, (Dk.selBack) = sel := ⟨_, rfl⟩
  rw [hsel] at HSE ⊢
  clear hsel
  obtain ⟨R, hR⟩ : ∃ R, Dk.chgN sel on tq wi t.cs 0 t = R := ⟨_, rfl⟩
  obtain ⟨RD, hRD⟩ : ∃ R, Dk.chgD sel on tq wi t = R := ⟨_, rfl⟩
  have HRD : Hid (RD = if R.2 = 0 then (if Dk.keptB R.1 = true then (R.1, 0) else (Tkt.zTk, 8)) else (Tkt.zTk, R.2)) := Lib.hid (by rw [← hRD, ← hR]; rfl)
  rw [hRD]
  have HTT := Lib.hid ts
  have HLEN := Lib.hid hlen
  have HON := Lib.hid hon; have HWI := Lib.hid hwi
  obtain ⟨p, n, cap⟩ := c
  obtain ⟨l, hl0⟩ : ∃ l, t.cs = l := ⟨_, rfl⟩
  have HL0 := Lib.hid hl0
  rw [hl0] at hR
  have HR0 := Lib.hid hR
  have HNL : Hid (n = l.length) := Lib.hid (by rw [← hl0]; exact ts.cs.length.1)
  have hn : n ≤ 9223372036854775807 := by have h1 := ts.cs.length; unfold maxLen at h1; simp only at h1; omega
  clear hR hRD ts hlen hon hwi hl0
  have hb0 := (Below.refl w.heap.size w).alloc (Nat.le_refl _) (.cells #[.int .u64 t.num, .string t.loc, .int .i64 t.iss, .slice p n cap, .slice x.p x.n x.c, .int .u64 t.prev, .int .u64 t.org, .int .u64 t.fst, .int .i64 t.vou, .int .i64 t.posts, .slice h.p h.n h.c] 45 (0, 0))
  have hb1 := hb0.alloc (by simp) (.cells #[.int .u64 0, .string ⟨#[]⟩, .int .i64 0, .slice none 0 0, .slice none 0 0, .int .u64 0, .int .u64 0, .int .u64 0, .int .i64 0, .int .i64 0, .slice none 0 0] 45 (0, 0))
  have hr0 := new_rowW w (.cells #[.int .u64 t.num, .string t.loc, .int .i64 t.iss, .slice p n cap, .slice x.p x.n x.c, .int .u64 t.prev, .int .u64 t.org, .int .u64 t.fst, .int .i64 t.vou, .int .i64 t.posts, .slice h.p h.n h.c] 45 (0, 0)) _ rfl
  have hr0b := (((Below.refl (w.heap.size + 1) (w.alloc (.cells #[.int .u64 t.num, .string t.loc, .int .i64 t.iss, .slice p n cap, .slice x.p x.n x.c, .int .u64 t.prev, .int .u64 t.org, .int .u64 t.fst, .int .i64 t.vou, .int .i64 t.posts, .slice h.p h.n h.c] 45 (0, 0)))).alloc (by simp) (.cells #[.int .u64 0, .string ⟨#[]⟩, .int .i64 0, .slice none 0 0, .slice none 0 0, .int .u64 0, .int .u64 0, .int .u64 0, .int .i64 0, .int .i64 0, .slice none 0 0] 45 (0, 0))).block w.heap.size (by omega)).trans hr0
  have hr1 := new_rowW (w.alloc (.cells #[.int .u64 t.num, .string t.loc, .int .i64 t.iss, .slice p n cap, .slice x.p x.n x.c, .int .u64 t.prev, .int .u64 t.org, .int .u64 t.fst, .int .i64 t.vou, .int .i64 t.posts, .slice h.p h.n h.c] 45 (0, 0))) (.cells #[.int .u64 0, .string ⟨#[]⟩, .int .i64 0, .slice none 0 0, .slice none 0 0, .int .u64 0, .int .u64 0, .int .u64 0, .int .i64 0, .int .i64 0, .slice none 0 0] 45 (0, 0)) (w.heap.size + 1) (by simp)
  have hP := putTk (W := (w.alloc (.cells #[.int .u64 t.num, .string t.loc, .int .i64 t.iss, .slice p n cap, .slice x.p x.n x.c, .int .u64 t.prev, .int .u64 t.org, .int .u64 t.fst, .int .i64 t.vou, .int .i64 t.posts, .slice h.p h.n h.c] 45 (0, 0))).alloc (.cells #[.int .u64 0, .string ⟨#[]⟩, .int .i64 0, .slice none 0 0, .slice none 0 0, .int .u64 0, .int .u64 0, .int .u64 0, .int .i64 0, .int .i64 0, .slice none 0 0] 45 (0, 0))) (cs := [.int .u64 t.num, .string t.loc, .int .i64 t.iss, .slice p n cap, .slice x.p x.n x.c, .int .u64 t.prev, .int .u64 t.org, .int .u64 t.fst, .int .i64 t.vou, .int .i64 t.posts, .slice h.p h.n h.c]) rfl
  have hsz : ((w.alloc (.cells #[.int .u64 t.num, .string t.loc, .int .i64 t.iss, .slice p n cap, .slice x.p x.n x.c, .int .u64 t.prev, .int .u64 t.org, .int .u64 t.fst, .int .i64 t.vou, .int .i64 t.posts, .slice h.p h.n h.c] 45 (0, 0))).alloc (.cells #[.int .u64 0, .string ⟨#[]⟩, .int .i64 0, .slice none 0 0, .slice none 0 0, .int .u64 0, .int .u64 0, .int .u64 0, .int .i64 0, .int .i64 0, .slice none 0 0] 45 (0, 0))).heap.size = w.heap.size + 1 + 1 := by simp
  have th := there_newT (w := (w.alloc (.cells #[.int .u64 t.num, .string t.loc, .int .i64 t.iss, .slice p n cap, .slice x.p x.n x.c, .int .u64 t.prev, .int .u64 t.org, .int .u64 t.fst, .int .i64 t.vou, .int .i64 t.posts, .slice h.p h.n h.c] 45 (0, 0))).alloc (.cells #[.int .u64 0, .string ⟨#[]⟩, .int .i64 0, .slice none 0 0, .slice none 0 0, .int .u64 0, .int .u64 0, .int .u64 0, .int .i64 0, .int .i64 0, .slice none 0 0] 45 (0, 0))) (zs := [.int .u64 0, .string ⟨#[]⟩, .int .i64 0, .slice none 0 0, .slice none 0 0, .int .u64 0, .int .u64 0, .int .u64 0, .int .i64 0, .int .i64 0, .slice none 0 0]) (e := 45) (n := 11) rfl
  have h1n : ([.int .u64 t.num, .string t.loc, .int .i64 t.iss, .slice p n cap, .slice x.p x.n x.c, .int .u64 t.prev, .int .u64 t.org, .int .u64 t.fst, .int .i64 t.vou, .int .i64 t.posts, .slice h.p h.n h.c] : List Value).length = 11 := rfl
  have h1c : ([.int .u64 t.num, .string t.loc, .int .i64 t.iss, .slice p n cap, .slice x.p x.n x.c, .int .u64 t.prev, .int .u64 t.org, .int .u64 t.fst, .int .i64 t.vou, .int .i64 t.posts, .slice h.p h.n h.c] : List Value).all (·.oneCell') = true := rfl
  rw [hsz] at hP th
  obtain ⟨f1, f2⟩ := row_loT 11 hr0b rfl rfl
  have HB1 := Lib.hid hb1; have HRW0 := Lib.hid hr0b; have HRW1 := Lib.hid hr1; have HP := Lib.hid hP
  have HSZ := Lib.hid hsz
  clear hb0 hb1 hr0 hr0b hr1 hP hsz
  go_enter Try.func45, Try.ntmps45
  go_upto_region 2 with fail
  have HBW := Lib.hid (HB1.out.trans (HP.out.2.mono (by omega)))
  have HR5 := Lib.hid ((HP.out.2.block w.heap.size (by omega)).trans HRW0.out)
  have HR10 := Lib.hid ((HP.out.2.block (w.heap.size + 1) (by omega)).trans HRW1.out)
  have HR12 := Lib.hid HP.out.1
  clear HP th h1n h1c f1 f2 HB1 HRW0 HRW1 HSZ
  generalize (((w.alloc (.cells #[.int .u64 t.num, .string t.loc, .int .i64 t.iss, .slice p n cap, .slice x.p x.n x.c, .int .u64 t.prev, .int .u64 t.org, .int .u64 t.fst, .int .i64 t.vou, .int .i64 t.posts, .slice h.p h.n h.c] 45 (0, 0))).alloc (.cells #[.int .u64 0, .string ⟨#[]⟩, .int .i64 0, .slice none 0 0, .slice none 0 0, .int .u64 0, .int .u64 0, .int .u64 0, .int .i64 0, .int .i64 0, .slice none 0 0] 45 (0, 0))).alloc (.cells #[.int .u64 0, .string ⟨#[]⟩, .int .i64 0, .slice none 0 0, .slice none 0 0, .int .u64 0, .int .u64 0, .int .u64 0, .int .i64 0, .int .i64 0, .slice none 0 0] 45 (0, 0))).setCells (w.heap.size + 1 + 1) 0 [.int .u64 t.num, .string t.loc, .int .i64 t.iss, .slice p n cap, .slice x.p x.n x.c, .int .u64 t.prev, .int .u64 t.org, .int .u64 t.fst, .int .i64 t.vou, .int .i64 t.posts, .slice h.p h.n h.c] = W1 at *
  have HT1 := Lib.hid (HTT.out.below HBW.out)
  have HOF : Hid (Off (w.heap.size + 1 + 1) t ⟨p, n, cap⟩ x h) := Lib.hid (Off.of_old HTT.out (by omega))
  have HA : Hid (BAt W1 W1 (w.heap.size + 1 + 1) t ⟨p, n, cap⟩ x h) := Lib.hid ⟨Only.refl _ _, HR12.out, HT1.out, HOF.out, HLEN.out⟩
  have kc := fun j => cell_of_row W1 w.heap.size j _ _ _ HR5.out
  clear HR12 HLEN
  go_wp2_with fail
  clear kc
  go_loopw [21] (fun i wr => ∃ (k : Nat) (o : Tk) (c' x' h' : Sl), k ≤ n ∧ i = .int .i64 k ∧ Dk.chgN sel on tq wi (l.drop k) k o = R ∧ BAt W1 wr (w.heap.size + 1 + 1) o c' x' h' ∧ Off (w.heap.size + 1) o c' x' h' ∧ Fresh w.heap.size t ⟨p, n, cap⟩ x h wr o c' x' h') (fun i _ => n - (intOf i).toNat)
  case atStart => exact ⟨0, t, ⟨p, n, cap⟩, x, h, Nat.zero_le _, rfl, HR0.out, HA.out, Off.of_old HTT.out (by omega), Fresh.refl _ _ _ _ _ _⟩
  case round =>
    obtain ⟨k, o, c', x', h', hk, rfl, hR, hA, hog, hot⟩ := hrel
    clear HA
    have HOG := Lib.hid hog
    have HOT := Lib.hid hot
    clear hog hot
    have HA := Lib.hid hA; have HRR := Lib.hid hR
    clear hA hR
    have HLW : Hid (Below w.heap.size w wr) := Lib.hid (Only.below HBW.out (by omega) HBW.out.size HA.out.b)
    have HTW := Lib.hid (HT1.out.only HOF.out HA.out.b)
    have HR5w := Lib.hid ((HA.out.b.block w.heap.size (block_lt HR5.out) (by omega)).trans HR5.out)
    have HR10w := Lib.hid ((HA.out.b.block (w.heap.size + 1) (block_lt HR10.out) (by omega)).trans HR10.out)
    by_cases hlt : k < n
    · obtain ⟨y, hy⟩ : ∃ y, l[k]? = some y := ⟨_, List.getElem?_eq_getElem (by have := HNL.out; omega)⟩
      have HCH : Hid (Dk.chgN sel on tq wi (l.drop k) k o = if sel ((k : Int) + 1) y = true then (if Tkt.errC o ((k : Int) + 1) on tq wi = 0 then Dk.chgN sel on tq wi (l.drop (k + 1)) (k + 1) (Tkt.chg o ((k : Int) + 1) on tq wi) else (Tkt.zTk, Tkt.errC o ((k : Int) + 1) on tq wi)) else Dk.chgN sel on tq wi (l.drop (k + 1)) (k + 1) o) := Lib.hid (by
        obtain ⟨hlt', e⟩ := List.getElem?_eq_some_iff.1 hy
        rw [List.drop_eq_getElem_cons hlt', Dk.chgN_cons, e])
      rw [HRR.out] at HCH
      have hcs := HTW.out.cs
      rw [HL0.out] at hcs
      obtain ⟨eb, ef, hp, -, hr⟩ := hcs.at hy
      subst hp
      obtain ⟨g1, g2⟩ := loL_of hr (Cpn.cells_length y)
      have g3 : y.cells = [.int .i64 y.fl, .int .i64 y.dy, .int .i64 y.va, .int .i64 y.st, .int .i64 y.ho, .int .u64 y.nx] := rfl
      rw [g3] at g1
      clear g3 hr hy hcs
      have tc := there_newT (w := wr) (zs := [.int .i64 0, .int .i64 0, .int .i64 0, .int .i64 0, .int .i64 0, .int .u64 0]) (e := 37) (n := 6) rfl
      have c6n : ([.int .i64 y.fl, .int .i64 y.dy, .int .i64 y.va, .int .i64 y.st, .int .i64 y.ho, .int .u64 y.nx] : List Value).length = 6 := rfl
      have c6c : ([.int .i64 y.fl, .int .i64 y.dy, .int .i64 y.va, .int .i64 y.st, .int .i64 y.ho, .int .u64 y.nx] : List Value).all (·.oneCell') = true := rfl
      go_upto_region 5 with fail
      have HP := Lib.hid (putRec (W := wr) (e := 37) (zs := [.int .i64 0, .int .i64 0, .int .i64 0, .int .i64 0, .int .i64 0, .int .u64 0]) (cs := [.int .i64 y.fl, .int .i64 y.dy, .int .i64 y.va, .int .i64 y.st, .int .i64 y.ho, .int .u64 y.nx]) rfl)
      have HA4 := Lib.hid (HA.out.below HP.out.2)
      have HOT := Lib.hid (HOT.out.below HP.out.2)
      have HLW4 := Lib.hid (HLW.out.trans (HP.out.2.mono HLW.out.size))
      have HRC := Lib.hid HP.out.1
      have HR10x := Lib.hid ((HP.out.2.block (w.heap.size + 1) (block_lt HR10w.out)).trans HR10w.out)
      clear HP tc c6n c6c g1 g2 HTW HR5w HR10w HA HLW
      generalize (wr.alloc (.cells #[.int .i64 0, .int .i64 0, .int .i64 0, .int .i64 0, .int .i64 0, .int .u64 0] 37 (0, 0))).setCells wr.heap.size 0 [.int .i64 y.fl, .int .i64 y.dy, .int .i64 y.va, .int .i64 y.st, .int .i64 y.ho, .int .u64 y.nx] = w4 at *
      generalize wr.heap.size = gc at *
      obtain ⟨f1, f2⟩ := row_loT 6 HRC.out rfl rfl
      have HSC := Lib.hid (HSE.out ((k : Int) + 1) y)
      obtain ⟨q, hq⟩ : ∃ q, sel ((k : Int) + 1) y = q := ⟨_, rfl⟩
      rw [hq] at HSC HCH
      clear hq
      go_upto_region 5 with fail
      cases q
      · have HCN : Hid (R = Dk.chgN sel on tq wi (l.drop (k + 1)) (k + 1) o) := Lib.hid HCH.out
        clear HCH
        go_wp2_with (go_at_call 52; refine (HSC.out _ HLW4.out).mono ?_; rintro e wn ⟨rfl, hbn⟩; have HA4 := Lib.hid (HA4.out.below hbn); have HOT := Lib.hid (HOT.out.below hbn); clear hbn)
        go_roundw
        case rel => exact ⟨k + 1, o, c', x', h', by omega, by go_num, HCN.out.symm, HA4.out, HOG.out, HOT.out⟩
        case measure => simp [intOf]; omega
      · have HCN : Hid (R = if Tkt.errC o ((k : Int) + 1) on tq wi = 0 then Dk.chgN sel on tq wi (l.drop (k + 1)) (k + 1) (Tkt.chg o ((k : Int) + 1) on tq wi) else (Tkt.zTk, Tkt.errC o ((k : Int) + 1) on tq wi)) := Lib.hid HCH.out
        clear HCH
        go_upto_region 6 with (go_at_call 52; refine (HSC.out _ HLW4.out).mono ?_; rintro e wn ⟨rfl, hbn⟩; have HA4 := Lib.hid (HA4.out.below hbn); have HOT := Lib.hid (HOT.out.below hbn); have HLW4 := Lib.hid (HLW4.out.trans (hbn.mono HLW4.out.size)); have HR10x := Lib.hid ((hbn.block (w.heap.size + 1) (block_lt HR10x.out)).trans HR10x.out); clear hbn)
        have hk1 : (k : Int) + 1 ≤ 9223372036854775807 := by omega
        have HTC := Lib.hid (tchange_any o c' x' h' ((k : Int) + 1) on tq wi ⟨by omega, by omega⟩ HON.out HWI.out wn HA4.out.s)
        obtain ⟨t', ht'⟩ : ∃ t', Tkt.chgT o ((k : Int) + 1) on tq wi = t' := ⟨_, rfl⟩
        obtain ⟨er, her⟩ : ∃ er, Tkt.errC o ((k : Int) + 1) on tq wi = er := ⟨_, rfl⟩
        rw [ht', her] at HTC
        have HOK : Hid (er = 0 → t' = Tkt.chg o ((k : Int) + 1) on tq wi ∧ t'.wf ∧ t'.cs.length ≤ 1000 ∧ t'.hs.length ≤ 1000) := Lib.hid (fun h0 => Dk.chg_ok (by rw [her]; exact h0) ht' HA4.out.s.wf HON.out HWI.out)
        rw [her] at HCN
        clear ht' her f1 f2
        obtain ⟨f1, f2⟩ := row_loT 11 HA4.out.r rfl rfl
        have HGL := Lib.hid (block_lt HA4.out.r)
        go_upto_region 7 with (go_at_call 74; refine HTC.out.mono ?_; rintro e w6 ⟨⟨a1, k1, b1⟩, ⟨a2, k2, b2⟩, ⟨a3, k3, b3⟩, rfl, hw1, hw2, hw3, hb6⟩; have HW1 := Lib.hid hw1; have HW2 := Lib.hid hw2; have HW3 := Lib.hid hw3; have HB6 := Lib.hid hb6; clear hw1 hw2 hw3 hb6; have th := there_newT (w := w6) (zs := [.int .u64 0, .string ⟨#[]⟩, .int .i64 0, .slice none 0 0, .slice none 0 0, .int .u64 0, .int .u64 0, .int .u64 0, .int .i64 0, .int .i64 0, .slice none 0 0]) (e := 45) (n := 11) rfl; have h1n : ([.int .u64 t'.num, .string t'.loc, .int .i64 t'.iss, .slice a1 k1 b1, .slice a2 k2 b2, .int .u64 t'.prev, .int .u64 t'.org, .int .u64 t'.fst, .int .i64 t'.vou, .int .i64 t'.posts, .slice a3 k3 b3] : List Value).length = 11 := rfl; have h1c : ([.int .u64 t'.num, .string t'.loc, .int .i64 t'.iss, .slice a1 k1 b1, .slice a2 k2 b2, .int .u64 t'.prev, .int .u64 t'.org, .int .u64 t'.fst, .int .i64 t'.vou, .int .i64 t'.posts, .slice a3 k3 b3] : List Value).all (·.oneCell') = true := rfl)
        have HP := Lib.hid (putTk (W := w6) (cs := [.int .u64 t'.num, .string t'.loc, .int .i64 t'.iss, .slice a1 k1 b1, .slice a2 k2 b2, .int .u64 t'.prev, .int .u64 t'.org, .int .u64 t'.fst, .int .i64 t'.vou, .int .i64 t'.posts, .slice a3 k3 b3]) rfl)
        have HA7 := Lib.hid ((HA4.out.below HB6.out).below HP.out.2)
        have HLW7 := Lib.hid ((HLW4.out.trans (HB6.out.mono HLW4.out.size)).trans (HP.out.2.mono (Nat.le_trans HLW4.out.size HB6.out.size)))
        have HR10y := Lib.hid ((HP.out.2.block (w.heap.size + 1) (by have := block_lt HR10x.out; have := HB6.out.size; omega)).trans ((HB6.out.block (w.heap.size + 1) (block_lt HR10x.out)).trans HR10x.out))
        have HR15 := Lib.hid HP.out.1
        have HOF7 : Hid (Off (w.heap.size + 1 + 1) t' ⟨a1, k1, b1⟩ ⟨a2, k2, b2⟩ ⟨a3, k3, b3⟩) := Lib.hid (Off.of_own HW1.out HW2.out HW3.out HGL.out)
        have HOT7 : Hid (w.heap.size ≤ wn.heap.size) := Lib.hid HLW4.out.size
        have HOG7 : Hid (Off (w.heap.size + 1) t' ⟨a1, k1, b1⟩ ⟨a2, k2, b2⟩ ⟨a3, k3, b3⟩) := Lib.hid (Off.of_own HW1.out HW2.out HW3.out (by have := HGL.out; omega))
        have HW1 := Lib.hid (recs_below HW1.out HP.out.2); have HW2 := Lib.hid (recs_below HW2.out HP.out.2); have HW3 := Lib.hid (recs_below HW3.out HP.out.2)
        clear HP th h1n h1c f1 f2
        generalize (w6.alloc (.cells #[.int .u64 0, .string ⟨#[]⟩, .int .i64 0, .slice none 0 0, .slice none 0 0, .int .u64 0, .int .u64 0, .int .u64 0, .int .i64 0, .int .i64 0, .slice none 0 0] 45 (0, 0))).setCells w6.heap.size 0 [.int .u64 t'.num, .string t'.loc, .int .i64 t'.iss, .slice a1 k1 b1, .slice a2 k2 b2, .int .u64 t'.prev, .int .u64 t'.org, .int .u64 t'.fst, .int .i64 t'.vou, .int .i64 t'.posts, .slice a3 k3 b3] = w7 at *
        generalize w6.heap.size = g15 at *
        by_cases h0 : er = 0
        · subst h0
          obtain ⟨h1, h2, h3, h4⟩ := HOK.out rfl
          have HTT7 : Hid (TS w7 t' ⟨a1, k1, b1⟩ ⟨a2, k2, b2⟩ ⟨a3, k3, b3⟩) := Lib.hid (TS.of_own h2 HW1.out HW2.out HW3.out)
          have HCM : Hid (R = Dk.chgN sel on tq wi (l.drop (k + 1)) (k + 1) t') := Lib.hid (by rw [h1]; exact HCN.out)
          have HLT := Lib.hid (And.intro h3 h4)
          clear h1 h2 h3 h4 HCN
          obtain ⟨f1, f2⟩ := row_loT 11 HR15.out rfl rfl
          have th := there_rowD HA7.out.r 11 rfl
          have h1n : ([.int .u64 t'.num, .string t'.loc, .int .i64 t'.iss, .slice a1 k1 b1, .slice a2 k2 b2, .int .u64 t'.prev, .int .u64 t'.org, .int .u64 t'.fst, .int .i64 t'.vou, .int .i64 t'.posts, .slice a3 k3 b3] : List Value).length = 11 := rfl
          have h1c : ([.int .u64 t'.num, .string t'.loc, .int .i64 t'.iss, .slice a1 k1 b1, .slice a2 k2 b2, .int .u64 t'.prev, .int .u64 t'.org, .int .u64 t'.fst, .int .i64 t'.vou, .int .i64 t'.posts, .slice a3 k3 b3] : List Value).all (·.oneCell') = true := rfl
          go_wp2
          go_roundw
          case rel => exact ⟨k + 1, t', ⟨a1, k1, b1⟩, ⟨a2, k2, b2⟩, ⟨a3, k3, b3⟩, by omega, by go_num, HCM.out.symm, HA7.out.turn rfl HTT7.out HOF7.out HLT.out, HOG7.out, Fresh.box (.inr ⟨own_monoT HW1.out HOT7.out, own_monoT HW2.out HOT7.out, own_monoT HW3.out HOT7.out⟩) HA7.out.r ((Only.refl _ _).setCells 0 _)⟩
          case measure => simp [intOf]; omega
        · have hq0 : (er != 0) = true := bne_iff_ne.2 h0
          have HRR2 : Hid (RD = (Tkt.zTk, er)) := Lib.hid (by
            have := HCN.out
            rw [if_neg h0] at this
            rw [HRD.out, this, if_neg h0])
          clear h0
          have th := there_rowD HR10y.out 11 rfl
          have h1n : ([.int .u64 0, .string ⟨#[]⟩, .int .i64 0, .slice none 0 0, .slice none 0 0, .int .u64 0, .int .u64 0, .int .u64 0, .int .i64 0, .int .i64 0, .slice none 0 0] : List Value).length = 11 := rfl
          have h1c : ([.int .u64 0, .string ⟨#[]⟩, .int .i64 0, .slice none 0 0, .slice none 0 0, .int .u64 0, .int .u64 0, .int .u64 0, .int .i64 0, .int .i64 0, .slice none 0 0] : List Value).all (·.oneCell') = true := rfl
          go_wp2
          have hrr := setCells_rowT (cs := [.int .u64 0, .string ⟨#[]⟩, .int .i64 0, .slice none 0 0, .slice none 0 0, .int .u64 0, .int .u64 0, .int .u64 0, .int .i64 0, .int .i64 0, .slice none 0 0]) (zs := [.int .u64 0, .string ⟨#[]⟩, .int .i64 0, .slice none 0 0, .slice none 0 0, .int .u64 0, .int .u64 0, .int .u64 0, .int .i64 0, .int .i64 0, .slice none 0 0]) HR10y.out rfl
          refine bodyPost_ret (results_cellT2 rfl _ _ (w.heap.size + 1) rfl (loadTk hrr rfl)) rfl ?_
          rw [HRR2.out]
          exact ⟨⟨none, 0, 0⟩, ⟨none, 0, 0⟩, ⟨none, 0, 0⟩, rfl, TS.zero _, Only.below HLW7.out (by omega) HLW7.out.size ((Only.refl _ _).setCells 0 _), Fresh.zero _ _ _ _ _ _⟩
    · obtain rfl : k = n := by omega
      have HRO : Hid (R = (o, 0)) := Lib.hid (by rw [← HRR.out, List.drop_of_length_le (by have := HNL.out; omega)]; rfl)
      have HKP := Lib.hid (dkept_any o c' x' h' wr HA.out.s.cs HA.out.s.hs.length.1 HA.out.l.1 HA.out.l.2)
      obtain ⟨q, hq⟩ : ∃ q, Dk.keptB o = q := ⟨_, rfl⟩
      rw [hq] at HKP
      have HRQ : Hid (RD = if q = true then (o, 0) else (Tkt.zTk, 8)) := Lib.hid (by rw [HRD.out, HRO.out, if_pos rfl, hq])
      clear hq
      obtain ⟨f1, f2⟩ := row_loT 11 HA.out.r rfl rfl
      cases q
      · have HRV : Hid (RD = (Tkt.zTk, 8)) := Lib.hid HRQ.out
        have h1n : ([.int .u64 0, .string ⟨#[]⟩, .int .i64 0, .slice none 0 0, .slice none 0 0, .int .u64 0, .int .u64 0, .int .u64 0, .int .i64 0, .int .i64 0, .slice none 0 0] : List Value).length = 11 := rfl
        have h1c : ([.int .u64 0, .string ⟨#[]⟩, .int .i64 0, .slice none 0 0, .slice none 0 0, .int .u64 0, .int .u64 0, .int .u64 0, .int .i64 0, .int .i64 0, .slice none 0 0] : List Value).all (·.oneCell') = true := rfl
        go_wp2_with (go_at_call 75; refine HKP.out.mono ?_; rintro e wn ⟨rfl, hbn⟩; have HLN := Lib.hid (HLW.out.trans (hbn.mono HLW.out.size)); have HRZ := Lib.hid ((hbn.block (w.heap.size + 1) (block_lt HR10w.out)).trans HR10w.out); clear hbn; have th := there_rowD HRZ.out 11 rfl)
        have hrr := setCells_rowT (cs := [.int .u64 0, .string ⟨#[]⟩, .int .i64 0, .slice none 0 0, .slice none 0 0, .int .u64 0, .int .u64 0, .int .u64 0, .int .i64 0, .int .i64 0, .slice none 0 0]) (zs := [.int .u64 0, .string ⟨#[]⟩, .int .i64 0, .slice none 0 0, .slice none 0 0, .int .u64 0, .int .u64 0, .int .u64 0, .int .i64 0, .int .i64 0, .slice none 0 0]) HRZ.out rfl
        refine bodyPost_ret (results_cellT2 rfl _ _ (w.heap.size + 1) rfl (loadTk hrr rfl)) rfl ?_
        rw [HRV.out]
        exact ⟨⟨none, 0, 0⟩, ⟨none, 0, 0⟩, ⟨none, 0, 0⟩, rfl, TS.zero _, Only.below HLN.out (by omega) HLN.out.size ((Only.refl _ _).setCells 0 _), Fresh.zero _ _ _ _ _ _⟩
      · have HRV : Hid (RD = (o, 0)) := Lib.hid HRQ.out
        have h1n : ([.int .u64 o.num, .string o.loc, .int .i64 o.iss, .slice c'.p c'.n c'.c, .slice x'.p x'.n x'.c, .int .u64 o.prev, .int .u64 o.org, .int .u64 o.fst, .int .i64 o.vou, .int .i64 o.posts, .slice h'.p h'.n h'.c] : List Value).length = 11 := rfl
        have h1c : ([.int .u64 o.num, .string o.loc, .int .i64 o.iss, .slice c'.p c'.n c'.c, .slice x'.p x'.n x'.c, .int .u64 o.prev, .int .u64 o.org, .int .u64 o.fst, .int .i64 o.vou, .int .i64 o.posts, .slice h'.p h'.n h'.c] : List Value).all (·.oneCell') = true := rfl
        go_wp2_with (go_at_call 75; refine HKP.out.mono ?_; rintro e wn ⟨rfl, hbn⟩; have HLN := Lib.hid (HLW.out.trans (hbn.mono HLW.out.size)); have HRZ := Lib.hid ((hbn.block (w.heap.size + 1) (block_lt HR10w.out)).trans HR10w.out); have HAN := Lib.hid (HA.out.below hbn); have HOTN := Lib.hid (HOT.out.below hbn); clear hbn f1 f2; have th := there_rowD HRZ.out 11 rfl; obtain ⟨f1, f2⟩ := row_loT 11 HAN.out.r rfl rfl)
        have hrr := setCells_rowT (cs := [.int .u64 o.num, .string o.loc, .int .i64 o.iss, .slice c'.p c'.n c'.c, .slice x'.p x'.n x'.c, .int .u64 o.prev, .int .u64 o.org, .int .u64 o.fst, .int .i64 o.vou, .int .i64 o.posts, .slice h'.p h'.n h'.c]) (zs := [.int .u64 0, .string ⟨#[]⟩, .int .i64 0, .slice none 0 0, .slice none 0 0, .int .u64 0, .int .u64 0, .int .u64 0, .int .i64 0, .int .i64 0, .slice none 0 0]) HRZ.out rfl
        refine bodyPost_ret (results_cellT2 rfl _ _ (w.heap.size + 1) rfl (loadTk hrr rfl)) rfl ?_
        rw [HRV.out]
        exact ⟨c', x', h', rfl, HAN.out.s.only (HOG.out) ((Only.refl _ _).setCells 0 _), Only.below HLN.out (by omega) HLN.out.size ((Only.refl _ _).setCells 0 _), Fresh.box HOTN.out HRZ.out ((Only.refl _ _).setCells 0 _)⟩
end Go.Proofs.Ytadabjkhiaidcaa
