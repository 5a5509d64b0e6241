/- The plain law of last statuses: a change keeps a coupon that came to one; a history comes to one at most once for a coupon. What a law's round works on: a ticket in a box that takes others. The law TicketLast. -/
import Derived.Test.YtmadkfahkbdibaaTrK
import Derived.Test.YtmadkfahkbdibaaTkW
import Derived.Test.YtmadkfahkbdibaaTrJ
import Derived.Deep.DeepCutAuto
import Derived.Deep.CutBlock
set_option linter.unusedVariables false
set_option linter.unusedSimpArgs false
namespace Go.Proofs.Ytmadkfahkbdibaa
open Go.RowKit

namespace Tkt
theorem lead_last {a b : Int} (h : leadsB a b = true) : lastB a = false := by
  unfold leadsB at h
  unfold lastB
  simp only [Bool.and_eq_true, decide_eq_true_eq] at h
  by_cases h0 : bitsI a = 0
  · rw [h0] at h
    simp at h
  · simp [h0]
/-- what a step may do to a ticket: coupons that came to a last status stay -/
structure Keeps (t u : Tk) : Prop where
  len : u.cs.length = t.cs.length
  at_ : ∀ (j : Nat) (z : Cpn), t.cs[j]? = some z → lastB z.st = true → u.cs[j]? = some z
theorem Keeps.rfl {t : Tk} : Keeps t t := ⟨Eq.refl _, fun _ _ h _ => h⟩
theorem keeps_chg {t : Tk} {k : Nat} {y : Cpn} {on tq wi : Int} (d : Done t k y on tq wi) : Keeps t (chg t ((k : Int) + 1) on tq wi) := by
  rw [chg_ok d.at_]
  refine ⟨List.length_set, fun j z hz hl => ?_⟩
  by_cases hj : k = j
  · subst hj
    rw [d.at_] at hz
    injection hz with hz
    subst hz
    rw [lead_last d.leads] at hl
    cases hl
  · simp only
    rw [List.getElem?_set_ne hj]
    exact hz
def nowL (n : Nat) (iss : Int) (hs : List Evt) : List Int := match toldE 0 n iss hs with | some s => s.now | none => []
/-- how often a coupon came to a last status -/
def endsI (n : Nat) (iss : Int) (k : Nat) (hs : List Evt) : Int := if lastB ((nowL n iss hs).getD k 0) = true then 1 else 0
theorem nowL_of {n : Nat} {iss : Int} {hs : List Evt} {s : Told} (h : toldE 0 n iss hs = some s) : nowL n iss hs = s.now := by
  unfold nowL
  rw [h]
theorem ends_nil (n : Nat) (iss : Int) (k : Nat) : endsI n iss k [] = 0 := by
  unfold endsI
  rw [nowL_of (s := told0 n iss) (Eq.refl _)]
  refine if_neg ?_
  unfold told0
  rw [List.getD_eq_getElem?_getD, List.getElem?_replicate]
  split <;> decide
theorem told_step {u : Int} {n : Nat} {iss : Int} {hs : List Evt} {s : Told} (h : toldE u n iss hs = some s) {i : Nat} {x : Evt} (hx : hs[i]? = some x) : ∃ si, toldE u n iss (hs.take i) = some si ∧ evOk si x = true ∧ toldE u n iss (hs.take (i + 1)) = some (evDo u si x) := by
  have hi : i < hs.length := (List.getElem?_eq_some_iff.1 hx).1
  have hxe : hs[i] = x := (List.getElem?_eq_some_iff.1 hx).2
  have ht : hs.take (i + 1) = hs.take i ++ [x] := by rw [List.take_succ_eq_append_getElem hi, hxe]
  cases h1 : toldE u n iss (hs.take (i + 1)) with
  | none => rw [toldE_none _ h1] at h; cases h
  | some s1 =>
    rw [ht, toldE_snoc] at h1
    obtain ⟨si, h0, hk, rfl⟩ := stepE_len h1
    exact ⟨si, h0, hk, Eq.refl _⟩
theorem ends_step {n : Nat} {iss : Int} {hs : List Evt} {s : Told} (h : toldE 0 n iss hs = some s) {i k : Nat} {x : Evt} (hx : hs[i]? = some x) :
    (x.co = (k : Int) + 1 → endsI n iss k (hs.take i) = 0 ∧ endsI n iss k (hs.take (i + 1)) = if lastB x.to = true then 1 else 0) ∧ (x.co ≠ (k : Int) + 1 → endsI n iss k (hs.take (i + 1)) = endsI n iss k (hs.take i)) := by
  obtain ⟨si, h0, hk, h1⟩ := told_step h hx
  unfold endsI
  rw [nowL_of h0, nowL_of h1]
  unfold evOk at hk
  simp only [Bool.and_eq_true, decide_eq_true_eq] at hk
  obtain ⟨⟨⟨⟨⟨c1, c2⟩, -⟩, -⟩, c3⟩, c4⟩ := hk
  refine ⟨fun hc => ?_, fun hc => ?_⟩
  · have e : x.co.toNat - 1 = k := by omega
    rw [e] at c3
    refine ⟨?_, ?_⟩
    · rw [← c3, lead_last c4]; rfl
    · have : (evDo 0 si x).now.getD k 0 = x.to := by
        simp only [evDo, e]
        rw [List.getD_eq_getElem?_getD, List.getElem?_set_self (by omega)]; rfl
      rw [this]
  · have : (evDo 0 si x).now.getD k 0 = si.now.getD k 0 := by
      simp only [evDo]
      rw [List.getD_eq_getElem?_getD, List.getElem?_set_ne (by omega), ← List.getD_eq_getElem?_getD]
    rw [this]
theorem ends_all {t : Tk} (hm : mayB t = true) {k : Nat} {z : Cpn} (hz : t.cs[k]? = some z) : endsI t.cs.length t.iss k t.hs = if lastB z.st = true then 1 else 0 := by
  unfold mayB at hm
  simp only [Bool.and_eq_true] at hm
  obtain ⟨s, hs, hn⟩ := hist_some hm.2
  have : (nowL t.cs.length t.iss t.hs).getD k 0 = z.st := by
    rw [nowL_of hs, hn, List.getD_eq_getElem?_getD, List.getElem?_map, hz]
    rfl
  unfold endsI
  rw [this]
theorem told_may {t : Tk} (hm : mayB t = true) : ∃ s, toldE 0 t.cs.length t.iss t.hs = some s := by
  unfold mayB at hm
  simp only [Bool.and_eq_true] at hm
  obtain ⟨s, hs, -⟩ := hist_some hm.2
  exact ⟨s, hs⟩
end Tkt
end Go.Proofs.Ytmadkfahkbdibaa

set_option linter.unusedVariables false
set_option linter.unusedSimpArgs false
namespace Go.Proofs.Ytmadkfahkbdibaa
open Go.ChangeShapes Go.WideShapes Go.ChangeAt Go.RowKit Go.Deep

/-- what a round works on: the ticket's box g, and the ticket in it -/
structure CAt (w W : World) (g : Nat) (t : Tk) (c x h : Sl) : Prop where
  b : Below w.heap.size w W
  r : W.heap[g]? = some (.cells #[.int .u64 t.num, .string t.loc, .int .i64 t.iss, .slice c.p c.n c.c, .slice x.p x.n x.c, .int .u64 t.prev, .int .u64 t.org, .int .u64 t.fst, .int .i64 t.vou, .int .i64 t.posts, .slice h.p h.n h.c] 27 (0, 0))
  s : TS W t c x h
  o : Off g t c x h
  l : t.cs.length ≤ 20 ∧ t.ts.length ≤ 20 ∧ t.hs.length ≤ 100
theorem CAt.below {w W W' : World} {g : Nat} {t : Tk} {c x h : Sl} (a : CAt w W g t c x h) (hb : Below W.heap.size W W') : CAt w W' g t c x h :=
  ⟨a.b.trans (hb.mono a.b.size), (hb.block _ (block_lt a.r)).trans a.r, a.s.below hb, a.o, a.l⟩
/-- the box takes another ticket, whose lists lie elsewhere -/
theorem CAt.turn {w W : World} {g : Nat} {t t' : Tk} {c x h c' x' h' : Sl} {vs : List Value} (a : CAt w W g t c x h) (hg : w.heap.size ≤ g) (hv : vs = [.int .u64 t'.num, .string t'.loc, .int .i64 t'.iss, .slice c'.p c'.n c'.c, .slice x'.p x'.n x'.c, .int .u64 t'.prev, .int .u64 t'.org, .int .u64 t'.fst, .int .i64 t'.vou, .int .i64 t'.posts, .slice h'.p h'.n h'.c]) (s : TS W t' c' x' h') (o : Off g t' c' x' h') (l : t'.cs.length ≤ 20 ∧ t'.ts.length ≤ 20 ∧ t'.hs.length ≤ 100) : CAt w (W.setCells g 0 vs) g t' c' x' h' := by
  subst hv
  exact ⟨Only.below a.b hg a.b.size ((Only.refl g W).setCells 0 _), setCells_rowT (zs := [.int .u64 t.num, .string t.loc, .int .i64 t.iss, .slice c.p c.n c.c, .slice x.p x.n x.c, .int .u64 t.prev, .int .u64 t.org, .int .u64 t.fst, .int .i64 t.vou, .int .i64 t.posts, .slice h.p h.n h.c]) a.r rfl, s.only o ((Only.refl g W).setCells 0 _), o, l⟩
/-- what a change that is done makes of it stays within the bounds -/
theorem lens_chg {t : Tk} {k : Nat} {y : Cpn} {on tq wi : Int} (d : Tkt.Done t k y on tq wi) : (Tkt.chg t ((k : Int) + 1) on tq wi).cs.length ≤ 20 ∧ (Tkt.chg t ((k : Int) + 1) on tq wi).ts.length ≤ 20 ∧ (Tkt.chg t ((k : Int) + 1) on tq wi).hs.length ≤ 100 := by
  have := Tkt.mayB_lens (Tkt.may_chg d)
  omega
theorem zTk_wf : Tkt.zTk.wf := ⟨⟨by decide, by decide⟩, by decide, ⟨by decide, by decide⟩, by simp [Tkt.zTk], by simp [Tkt.zTk], ⟨by decide, by decide⟩, ⟨by decide, by decide⟩, ⟨by decide, by decide⟩, ⟨by decide, by decide⟩, ⟨by decide, by decide⟩, by simp [Tkt.zTk]⟩
theorem wf_chgT {t : Tk} {co on tq wi : Int} (hw : t.wf) (ho : I64 on) (hwi : U64 wi) : (Tkt.chgT t co on tq wi).wf := by
  unfold Tkt.chgT
  split
  · rename_i h0
    obtain ⟨k, y, rfl, d⟩ := Tkt.done_of h0
    exact Tkt.wf_chg d hw ho hwi
  · exact zTk_wf
theorem chgT_ok {t t' : Tk} {co on tq wi : Int} (h0 : Tkt.errC t co on tq wi = 0) (ht : Tkt.chgT t co on tq wi = t') : Tkt.mayB t' = true ∧ t'.cs.length ≤ 20 ∧ t'.ts.length ≤ 20 ∧ t'.hs.length ≤ 100 := by
  subst ht
  unfold Tkt.chgT
  rw [if_pos h0]
  obtain ⟨k, y, rfl, d⟩ := Tkt.done_of h0
  exact ⟨Tkt.may_chg d, lens_chg d⟩
end Go.Proofs.Ytmadkfahkbdibaa

set_option linter.unusedVariables false
set_option linter.unusedSimpArgs false
namespace Go.Proofs.Ytmadkfahkbdibaa.ticketLast
open Go.ChangeShapes Go.WideShapes Go.ChangeAt Go.RowKit Go.Deep

attribute [local go_sem ↓] Tk_execLoad Tk_execStore Cp_execLoad
attribute [local go_sem] Tk_load Tk_store Cp_load loL_drew okL_drew there_sc World.there_drew
theorem keeps_chgT {t t' : Tk} {co on tq wi : Int} (h0 : Tkt.errC t co on tq wi = 0) (ht : Tkt.chgT t co on tq wi = t') : Tkt.Keeps t t' := by
  subst ht
  unfold Tkt.chgT
  rw [if_pos h0]
  obtain ⟨k, y, rfl, d⟩ := Tkt.done_of h0
  exact Tkt.keeps_chg d
set_option maxRecDepth 8000 in
set_option maxHeartbeats 8000000 in
theorem walk (t : Tk) (c x h : Sl) (l : List Stp) (p : Option Addr) (n cap : Nat) (hlw : ∀ s ∈ l, s.wf) (w : World) (ts : TS w t c x h) (hst : LS Stp.cells 4 w (.slice p n cap) l) : Calls Try.prog 4 #[.agg #[.int .u64 t.num, .string t.loc, .int .i64 t.iss, .slice c.p c.n c.c, .slice x.p x.n x.c, .int .u64 t.prev, .int .u64 t.org, .int .u64 t.fst, .int .i64 t.vou, .int .i64 t.posts, .slice h.p h.n h.c], .slice p n cap] w fun e w' => e = .returned (.bool true) ∧ Below w.heap.size w w' := by
  have HST := Lib.hid hst
  have HTT := Lib.hid ts
  have HKN := Lib.hid (fun W => known13_any W)
  have HM := Lib.hid (fun W hW => rmuch_any t c x h W (ts.below hW))
  have HMA := Lib.hid (fun W hW => rmay_any t c x h W (ts.below hW))
  have HNL : Hid (n = l.length) := Lib.hid hst.length.1
  have hn2 : n ≤ 9223372036854775807 := by have h1 := hst.length.2.1; have h2 := hst.length.2.2; unfold maxLen at h2; omega
  have HLW := Lib.hid hlw
  obtain ⟨mu, hmu⟩ : ∃ m, Tkt.muchB t = m := ⟨_, rfl⟩
  have HMU := Lib.hid hmu
  rw [hmu] at HM
  obtain ⟨mb, hmb⟩ : ∃ m, Tkt.mayB t = m := ⟨_, rfl⟩
  have HMB := Lib.hid hmb
  rw [hmb] at HMA
  have HB := Lib.hid ((Below.refl w.heap.size w).alloc (Nat.le_refl _) (.cells #[.int .u64 t.num, .string t.loc, .int .i64 t.iss, .slice c.p c.n c.c, .slice x.p x.n x.c, .int .u64 t.prev, .int .u64 t.org, .int .u64 t.fst, .int .i64 t.vou, .int .i64 t.posts, .slice h.p h.n h.c] 27 (0, 0)))
  have HR := Lib.hid (new_rowW w (.cells #[.int .u64 t.num, .string t.loc, .int .i64 t.iss, .slice c.p c.n c.c, .slice x.p x.n x.c, .int .u64 t.prev, .int .u64 t.org, .int .u64 t.fst, .int .i64 t.vou, .int .i64 t.posts, .slice h.p h.n h.c] 27 (0, 0)) _ rfl)
  obtain ⟨f1, f2⟩ := row_loT 11 HR.out rfl rfl
  clear hmu hmb hst hlw
  by_cases hgo : mu = false ∧ mb = true ∧ n ≤ 40
  · obtain ⟨rfl, rfl, h70⟩ := hgo
    have hlen : t.cs.length ≤ 20 ∧ t.ts.length ≤ 20 ∧ t.hs.length ≤ 100 := by have := HMU.out; unfold Tkt.muchB at this; simp at this; omega
    have HLEN := Lib.hid hlen
    clear hlen
    go_enter Try.func4, Try.ntmps4
    go_upto_region 3 with (first | (go_at_call 11; refine (HM.out _ HB.out).mono ?_; rintro e wn ⟨rfl, hbn⟩; have HB := Lib.hid (HB.out.trans (hbn.mono HB.out.size)); have HR := Lib.hid ((hbn.block _ (block_lt HR.out)).trans HR.out); obtain ⟨f1, f2⟩ := row_loT 11 HR.out rfl rfl; clear hbn) | (go_at_call 18; refine (HMA.out _ HB.out).mono ?_; rintro e wn ⟨rfl, hbn⟩; have HB := Lib.hid (HB.out.trans (hbn.mono HB.out.size)); have HR := Lib.hid ((hbn.block _ (block_lt HR.out)).trans HR.out); obtain ⟨f1, f2⟩ := row_loT 11 HR.out rfl rfl; clear hbn))
    clear f1 f2
    have HA : Hid (CAt w wn w.heap.size t c x h) := Lib.hid ⟨HB.out, HR.out, HTT.out.below HB.out, Off.of_old HTT.out (Nat.le_refl _), HLEN.out⟩
    go_wp2_with fail
    go_loopw [5] (fun i wr => ∃ (k : Nat) (t : Tk) (c x h : Sl), k ≤ n ∧ i = .int .i64 k ∧ CAt w wr w.heap.size t c x h ∧ Tkt.mayB t = true) (fun i _ => n - (intOf i).toNat)
    case atStart => exact ⟨0, t, c, x, h, Nat.zero_le _, rfl, HA.out, HMB.out⟩
    case round =>
      obtain ⟨k, t, c, x, h, hk, rfl, hrel, hmay⟩ := hrel
      have HA := Lib.hid hrel
      have HMY := Lib.hid hmay
      clear hrel hmay
      by_cases hlt : k < n
      · obtain ⟨s, hs⟩ : ∃ s, l[k]? = some s := ⟨_, List.getElem?_eq_getElem (by have := HNL.out; omega)⟩
        have HSS := Lib.hid hs
        obtain ⟨hco, hon, hwi⟩ := HLW.out s (List.mem_of_getElem? hs)
        have HCH := Lib.hid (fun W ts => tchange_any t c x h s.co s.on s.tq s.wi hco hon hwi W ts)
        have HON := Lib.hid hon
        have HWI := Lib.hid hwi
        clear hon hwi hco
        obtain ⟨f1, f2⟩ := row_loT 11 HA.out.r rfl rfl
        have th := there_newT (w := wr) (zs := [.int .u64 0, .string ⟨#[]⟩, .int .i64 0, .slice none 0 0, .slice none 0 0, .int .u64 0, .int .u64 0, .int .u64 0, .int .i64 0, .int .i64 0, .slice none 0 0]) (e := 27) (n := 11) rfl
        have h1n : ([.int .u64 t.num, .string t.loc, .int .i64 t.iss, .slice c.p c.n c.c, .slice x.p x.n x.c, .int .u64 t.prev, .int .u64 t.org, .int .u64 t.fst, .int .i64 t.vou, .int .i64 t.posts, .slice h.p h.n h.c] : List Value).length = 11 := rfl
        have h1c : ([.int .u64 t.num, .string t.loc, .int .i64 t.iss, .slice c.p c.n c.c, .slice x.p x.n x.c, .int .u64 t.prev, .int .u64 t.org, .int .u64 t.fst, .int .i64 t.vou, .int .i64 t.posts, .slice h.p h.n h.c] : List Value).all (·.oneCell') = true := rfl
        go_upto_region 7 with fail
        have HNE0 : Hid (wr.heap.size ≠ w.heap.size) := Lib.hid (by have := block_lt HA.out.r; omega)
        have HP := Lib.hid (putTk (W := wr) (cs := [.int .u64 t.num, .string t.loc, .int .i64 t.iss, .slice c.p c.n c.c, .slice x.p x.n x.c, .int .u64 t.prev, .int .u64 t.org, .int .u64 t.fst, .int .i64 t.vou, .int .i64 t.posts, .slice h.p h.n h.c]) rfl)
        have HA := Lib.hid (HA.out.below HP.out.2)
        have HRg6 := Lib.hid HP.out.1
        clear HP th h1n h1c f1 f2
        generalize (wr.alloc (.cells #[.int .u64 0, .string ⟨#[]⟩, .int .i64 0, .slice none 0 0, .slice none 0 0, .int .u64 0, .int .u64 0, .int .u64 0, .int .i64 0, .int .i64 0, .slice none 0 0] 27 (0, 0))).setCells wr.heap.size 0 [.int .u64 t.num, .string t.loc, .int .i64 t.iss, .slice c.p c.n c.c, .slice x.p x.n x.c, .int .u64 t.prev, .int .u64 t.org, .int .u64 t.fst, .int .i64 t.vou, .int .i64 t.posts, .slice h.p h.n h.c] = w5 at *
        generalize wr.heap.size = g6 at *
        have HTO := Lib.hid HA.out.s
        obtain ⟨sb, so, hp, hbl, hr⟩ := (HST.out.below HA.out.b).at hs
        subst hp
        clear hbl hr hs
        obtain ⟨t', ht'⟩ : ∃ t', Tkt.chgT t s.co s.on s.tq s.wi = t' := ⟨_, rfl⟩
        obtain ⟨er, her⟩ : ∃ er, Tkt.errC t s.co s.on s.tq s.wi = er := ⟨_, rfl⟩
        rw [ht', her] at HCH
        have HT' := Lib.hid ht'; have HER := Lib.hid her
        have HWF : Hid (t'.wf) := Lib.hid (by rw [← ht']; exact wf_chgT HA.out.s.wf HON.out HWI.out)
        clear ht' her
        have HA := Lib.hid (HA.out.below (Below.refl _ _).drew)
        have HRg6 := Lib.hid (row_drewT HRg6.out)
        have HTO := Lib.hid (HTO.out.below (Below.refl _ _).drew)
        refine wp_region_G (C := fun W => loL 11 W w.heap.size 0 = [.int .u64 t.num, .string t.loc, .int .i64 t.iss, .slice c.p c.n c.c, .slice x.p x.n x.c, .int .u64 t.prev, .int .u64 t.org, .int .u64 t.fst, .int .i64 t.vou, .int .i64 t.posts, .slice h.p h.n h.c] ∧ okL 11 W w.heap.size 0 ∧ W.cell? ⟨sb, so + k * 4, none⟩ = some (.int .i64 s.co) ∧ W.cell? ⟨sb, so + k * 4 + 1, none⟩ = some (.int .i64 s.on) ∧ W.cell? ⟨sb, so + k * 4 + 2, none⟩ = some (.int .i64 s.tq) ∧ W.cell? ⟨sb, so + k * 4 + 3, none⟩ = some (.int .u64 s.wi)) (s0 := 21) (by kernel_rfl) ?_
        generalize w5.drew = wd at *
        have HCC : Hid (∀ W, Below wd.heap.size wd W → (loL 11 W w.heap.size 0 = [.int .u64 t.num, .string t.loc, .int .i64 t.iss, .slice c.p c.n c.c, .slice x.p x.n x.c, .int .u64 t.prev, .int .u64 t.org, .int .u64 t.fst, .int .i64 t.vou, .int .i64 t.posts, .slice h.p h.n h.c] ∧ okL 11 W w.heap.size 0 ∧ W.cell? ⟨sb, so + k * 4, none⟩ = some (.int .i64 s.co) ∧ W.cell? ⟨sb, so + k * 4 + 1, none⟩ = some (.int .i64 s.on) ∧ W.cell? ⟨sb, so + k * 4 + 2, none⟩ = some (.int .i64 s.tq) ∧ W.cell? ⟨sb, so + k * 4 + 3, none⟩ = some (.int .u64 s.wi))) := Lib.hid (fun W hW => by
          obtain ⟨f1, f2⟩ := row_loT 11 (HA.out.below hW).r rfl rfl
          obtain ⟨sb2, so2, hp2, hbl2, hr2⟩ := (HST.out.below (HA.out.below hW).b).at HSS.out
          injection hp2 with hp2; injection hp2 with hp3 hp4; subst hp3; subst hp4
          exact ⟨f1, f2, hr2 0 _ rfl, hr2 1 _ rfl, hr2 2 _ rfl, hr2 3 _ rfl⟩)
        have hHeld := HCC.out wd (Below.refl _ _)
        refine wpAnyG_takeM (i := 0) (oi := { dst := some 34, op := Op.load 27 (Operand.tmp 2), type := 27, pos := "law.go:106", after := #[], guard := none }) (v := ?_) (ms := [21, 22, 23, 24, 26, 27]) rfl (by kernel_rfl) (by kernel_rfl) (by kernel_rfl) (by kernel_rfl) (by kernel_rfl) (fun _ _ _ h => h) (Or.inl ⟨by rfl, ?_⟩) (by assumption) ?_
        rotate_left
        · intro w hSw; (try dsimp only at hSw); go_simp; try with_reducible rfl
        try simp only [Act.put, List.setIfInBounds_toArray, List.set_cons_zero, List.set_cons_succ]
        refine wpAnyG_takeU (i := 1) (oi := { dst := some 35, op := Op.move (Operand.tmp 1), type := 28, pos := "law.go:106", after := #[], guard := none }) (v := ?_) rfl (by kernel_rfl) (by kernel_rfl) (by kernel_rfl) (by decide) (fun _ _ _ h => h) (Or.inl ⟨by rfl, ?_⟩) (.inl (by assumption)) ?_
        rotate_left
        · intro w hSw; go_simp; try with_reducible rfl
        try simp only [Act.put, List.setIfInBounds_toArray, List.set_cons_zero, List.set_cons_succ]
        refine wpAnyG_takeU (i := 2) (oi := { dst := some 36, op := Op.move (Operand.tmp 5), type := 3, pos := "law.go:106", after := #[], guard := none }) (v := ?_) rfl (by kernel_rfl) (by kernel_rfl) (by kernel_rfl) (by decide) (fun _ _ _ h => h) (Or.inl ⟨by rfl, ?_⟩) (.inl (by assumption)) ?_
        rotate_left
        · intro w hSw; go_simp; try with_reducible rfl
        try simp only [Act.put, List.setIfInBounds_toArray, List.set_cons_zero, List.set_cons_succ]
        refine wpAnyG_takeU (i := 3) (oi := { dst := some 37, op := Op.indexAddr 28 (Operand.tmp 35) (Operand.tmp 36), type := 0, pos := "law.go:106", after := #[{ on := 1, ground := Ground.data }, { on := 2, ground := Ground.data }], guard := none }) (v := ?_) rfl (by kernel_rfl) (by kernel_rfl) (by kernel_rfl) (by decide) (fun _ _ _ h => h) (Or.inl ⟨by rfl, ?_⟩) (.inl (by assumption)) ?_
        rotate_left
        · intro w hSw; go_simp; try with_reducible rfl
        try simp only [Act.put, List.setIfInBounds_toArray, List.set_cons_zero, List.set_cons_succ]
        refine wpAnyG_takeU (i := 4) (oi := { dst := some 38, op := Op.fieldAddr 37 (Operand.tmp 37) 0, type := 0, pos := "law.go:106", after := #[{ on := 3, ground := Ground.data }], guard := none }) (v := ?_) rfl (by kernel_rfl) (by kernel_rfl) (by kernel_rfl) (by decide) (fun _ _ _ h => h) (Or.inl ⟨by rfl, ?_⟩) (.inl (by assumption)) ?_
        rotate_left
        · intro w hSw; go_simp; try with_reducible rfl
        try simp only [Act.put, List.setIfInBounds_toArray, List.set_cons_zero, List.set_cons_succ]
        refine wpAnyG_takeM (i := 5) (oi := { dst := some 39, op := Op.load 3 (Operand.tmp 38), type := 3, pos := "law.go:106", after := #[{ on := 4, ground := Ground.data }], guard := none }) (v := ?_) (ms := [21, 22, 23, 24, 26, 27]) rfl (by kernel_rfl) (by kernel_rfl) (by kernel_rfl) (by kernel_rfl) (by kernel_rfl) (fun _ _ _ h => h) (Or.inl ⟨by rfl, ?_⟩) (by assumption) ?_
        rotate_left
        · intro w hSw; (try dsimp only at hSw); go_simp; try with_reducible rfl
        try simp only [Act.put, List.setIfInBounds_toArray, List.set_cons_zero, List.set_cons_succ]
        refine wpAnyG_takeU (i := 6) (oi := { dst := some 40, op := Op.move (Operand.tmp 1), type := 28, pos := "law.go:106", after := #[], guard := none }) (v := ?_) rfl (by kernel_rfl) (by kernel_rfl) (by kernel_rfl) (by decide) (fun _ _ _ h => h) (Or.inl ⟨by rfl, ?_⟩) (.inl (by assumption)) ?_
        rotate_left
        · intro w hSw; go_simp; try with_reducible rfl
        try simp only [Act.put, List.setIfInBounds_toArray, List.set_cons_zero, List.set_cons_succ]
        refine wpAnyG_takeU (i := 7) (oi := { dst := some 41, op := Op.move (Operand.tmp 5), type := 3, pos := "law.go:106", after := #[], guard := none }) (v := ?_) rfl (by kernel_rfl) (by kernel_rfl) (by kernel_rfl) (by decide) (fun _ _ _ h => h) (Or.inl ⟨by rfl, ?_⟩) (.inl (by assumption)) ?_
        rotate_left
        · intro w hSw; go_simp; try with_reducible rfl
        try simp only [Act.put, List.setIfInBounds_toArray, List.set_cons_zero, List.set_cons_succ]
        refine wpAnyG_takeU (i := 8) (oi := { dst := some 42, op := Op.indexAddr 28 (Operand.tmp 40) (Operand.tmp 41), type := 0, pos := "law.go:106", after := #[{ on := 6, ground := Ground.data }, { on := 7, ground := Ground.data }], guard := none }) (v := ?_) rfl (by kernel_rfl) (by kernel_rfl) (by kernel_rfl) (by decide) (fun _ _ _ h => h) (Or.inl ⟨by rfl, ?_⟩) (.inl (by assumption)) ?_
        rotate_left
        · intro w hSw; go_simp; try with_reducible rfl
        try simp only [Act.put, List.setIfInBounds_toArray, List.set_cons_zero, List.set_cons_succ]
        refine wpAnyG_takeU (i := 9) (oi := { dst := some 43, op := Op.fieldAddr 37 (Operand.tmp 42) 1, type := 0, pos := "law.go:106", after := #[{ on := 8, ground := Ground.data }], guard := none }) (v := ?_) rfl (by kernel_rfl) (by kernel_rfl) (by kernel_rfl) (by decide) (fun _ _ _ h => h) (Or.inl ⟨by rfl, ?_⟩) (.inl (by assumption)) ?_
        rotate_left
        · intro w hSw; go_simp; try with_reducible rfl
        try simp only [Act.put, List.setIfInBounds_toArray, List.set_cons_zero, List.set_cons_succ]
        refine wpAnyG_takeM (i := 10) (oi := { dst := some 44, op := Op.load 3 (Operand.tmp 43), type := 3, pos := "law.go:106", after := #[{ on := 9, ground := Ground.data }], guard := none }) (v := ?_) (ms := [21, 22, 23, 24, 26, 27]) rfl (by kernel_rfl) (by kernel_rfl) (by kernel_rfl) (by kernel_rfl) (by kernel_rfl) (fun _ _ _ h => h) (Or.inl ⟨by rfl, ?_⟩) (by assumption) ?_
        rotate_left
        · intro w hSw; (try dsimp only at hSw); go_simp; try with_reducible rfl
        try simp only [Act.put, List.setIfInBounds_toArray, List.set_cons_zero, List.set_cons_succ]
        refine wpAnyG_takeU (i := 11) (oi := { dst := some 45, op := Op.move (Operand.tmp 1), type := 28, pos := "law.go:106", after := #[], guard := none }) (v := ?_) rfl (by kernel_rfl) (by kernel_rfl) (by kernel_rfl) (by decide) (fun _ _ _ h => h) (Or.inl ⟨by rfl, ?_⟩) (.inl (by assumption)) ?_
        rotate_left
        · intro w hSw; go_simp; try with_reducible rfl
        try simp only [Act.put, List.setIfInBounds_toArray, List.set_cons_zero, List.set_cons_succ]
        refine wpAnyG_takeU (i := 12) (oi := { dst := some 46, op := Op.move (Operand.tmp 5), type := 3, pos := "law.go:106", after := #[], guard := none }) (v := ?_) rfl (by kernel_rfl) (by kernel_rfl) (by kernel_rfl) (by decide) (fun _ _ _ h => h) (Or.inl ⟨by rfl, ?_⟩) (.inl (by assumption)) ?_
        rotate_left
        · intro w hSw; go_simp; try with_reducible rfl
        try simp only [Act.put, List.setIfInBounds_toArray, List.set_cons_zero, List.set_cons_succ]
        refine wpAnyG_takeU (i := 13) (oi := { dst := some 47, op := Op.indexAddr 28 (Operand.tmp 45) (Operand.tmp 46), type := 0, pos := "law.go:106", after := #[{ on := 11, ground := Ground.data }, { on := 12, ground := Ground.data }], guard := none }) (v := ?_) rfl (by kernel_rfl) (by kernel_rfl) (by kernel_rfl) (by decide) (fun _ _ _ h => h) (Or.inl ⟨by rfl, ?_⟩) (.inl (by assumption)) ?_
        rotate_left
        · intro w hSw; go_simp; try with_reducible rfl
        try simp only [Act.put, List.setIfInBounds_toArray, List.set_cons_zero, List.set_cons_succ]
        refine wpAnyG_takeU (i := 14) (oi := { dst := some 48, op := Op.fieldAddr 37 (Operand.tmp 47) 2, type := 0, pos := "law.go:106", after := #[{ on := 13, ground := Ground.data }], guard := none }) (v := ?_) rfl (by kernel_rfl) (by kernel_rfl) (by kernel_rfl) (by decide) (fun _ _ _ h => h) (Or.inl ⟨by rfl, ?_⟩) (.inl (by assumption)) ?_
        rotate_left
        · intro w hSw; go_simp; try with_reducible rfl
        try simp only [Act.put, List.setIfInBounds_toArray, List.set_cons_zero, List.set_cons_succ]
        refine wpAnyG_takeM (i := 15) (oi := { dst := some 49, op := Op.load 35 (Operand.tmp 48), type := 35, pos := "law.go:106", after := #[{ on := 14, ground := Ground.data }], guard := none }) (v := ?_) (ms := [21, 22, 23, 24, 26, 27]) rfl (by kernel_rfl) (by kernel_rfl) (by kernel_rfl) (by kernel_rfl) (by kernel_rfl) (fun _ _ _ h => h) (Or.inl ⟨by rfl, ?_⟩) (by assumption) ?_
        rotate_left
        · intro w hSw; (try dsimp only at hSw); go_simp; try with_reducible rfl
        try simp only [Act.put, List.setIfInBounds_toArray, List.set_cons_zero, List.set_cons_succ]
        refine wpAnyG_takeU (i := 16) (oi := { dst := some 50, op := Op.move (Operand.tmp 1), type := 28, pos := "law.go:106", after := #[], guard := none }) (v := ?_) rfl (by kernel_rfl) (by kernel_rfl) (by kernel_rfl) (by decide) (fun _ _ _ h => h) (Or.inl ⟨by rfl, ?_⟩) (.inl (by assumption)) ?_
        rotate_left
        · intro w hSw; go_simp; try with_reducible rfl
        try simp only [Act.put, List.setIfInBounds_toArray, List.set_cons_zero, List.set_cons_succ]
        refine wpAnyG_takeU (i := 17) (oi := { dst := some 51, op := Op.move (Operand.tmp 5), type := 3, pos := "law.go:106", after := #[], guard := none }) (v := ?_) rfl (by kernel_rfl) (by kernel_rfl) (by kernel_rfl) (by decide) (fun _ _ _ h => h) (Or.inl ⟨by rfl, ?_⟩) (.inl (by assumption)) ?_
        rotate_left
        · intro w hSw; go_simp; try with_reducible rfl
        try simp only [Act.put, List.setIfInBounds_toArray, List.set_cons_zero, List.set_cons_succ]
        refine wpAnyG_takeU (i := 18) (oi := { dst := some 52, op := Op.indexAddr 28 (Operand.tmp 50) (Operand.tmp 51), type := 0, pos := "law.go:106", after := #[{ on := 16, ground := Ground.data }, { on := 17, ground := Ground.data }], guard := none }) (v := ?_) rfl (by kernel_rfl) (by kernel_rfl) (by kernel_rfl) (by decide) (fun _ _ _ h => h) (Or.inl ⟨by rfl, ?_⟩) (.inl (by assumption)) ?_
        rotate_left
        · intro w hSw; go_simp; try with_reducible rfl
        try simp only [Act.put, List.setIfInBounds_toArray, List.set_cons_zero, List.set_cons_succ]
        refine wpAnyG_takeU (i := 19) (oi := { dst := some 53, op := Op.fieldAddr 37 (Operand.tmp 52) 3, type := 0, pos := "law.go:106", after := #[{ on := 18, ground := Ground.data }], guard := none }) (v := ?_) rfl (by kernel_rfl) (by kernel_rfl) (by kernel_rfl) (by decide) (fun _ _ _ h => h) (Or.inl ⟨by rfl, ?_⟩) (.inl (by assumption)) ?_
        rotate_left
        · intro w hSw; go_simp; try with_reducible rfl
        try simp only [Act.put, List.setIfInBounds_toArray, List.set_cons_zero, List.set_cons_succ]
        refine wpAnyG_takeM (i := 20) (oi := { dst := some 54, op := Op.load 22 (Operand.tmp 53), type := 22, pos := "law.go:106", after := #[{ on := 19, ground := Ground.data }], guard := none }) (v := ?_) (ms := [21, 22, 23, 24, 26, 27]) rfl (by kernel_rfl) (by kernel_rfl) (by kernel_rfl) (by kernel_rfl) (by kernel_rfl) (fun _ _ _ h => h) (Or.inl ⟨by rfl, ?_⟩) (by assumption) ?_
        rotate_left
        · intro w hSw; (try dsimp only at hSw); go_simp; try with_reducible rfl
        try simp only [Act.put, List.setIfInBounds_toArray, List.set_cons_zero, List.set_cons_succ]
        refine cutK (J := ?J7) ?h7 ?k7
        case h7 =>
          intro hJ
          refine wpAnyG_two (i := 21) (oi := { dst := some 55, op := Op.call { callee := Callee.value (Operand.func 14), args := #[Operand.tmp 34, Operand.tmp 39, Operand.tmp 44, Operand.tmp 49, Operand.tmp 54], argTypes := #[27, 3, 3, 35, 22] }, type := 33, pos := "law.go:106", after := #[{ on := 0, ground := Ground.data }, { on := 5, ground := Ground.data }, { on := 10, ground := Ground.data }, { on := 15, ground := Ground.data }, { on := 20, ground := Ground.data }], guard := none }) (j := 25) (oj := { dst := some 7, op := Op.alloc 27, type := 0, pos := "law.go:106", after := #[], guard := none }) (by kernel_rfl) rfl rfl (fun K hK => ?_) (fun K hK => ?_)
          · go_simp
            go_at_call 14
            refine (HCH.out _ HA.out.s).mono ?_
            rintro e wn ⟨⟨q1, n1, z1⟩, ⟨q2, n2, z2⟩, ⟨q3, n3, z3⟩, rfl, hw1, hw2, hw3, hbn⟩
            dsimp only at hw1 hw2 hw3
            have O1 : Hid (wn.ownsRow wd.heap.size 44 6 (.slice q1 n1 z1) t'.cs.length (encL Cpn.cells t'.cs)) := Lib.hid (own_monoT hw1 (Nat.le_refl _))
            have O2 : Hid (wn.ownsRow wd.heap.size 48 2 (.slice q2 n2 z2) t'.ts.length (encL Txx.cells t'.ts)) := Lib.hid (own_monoT hw2 (Nat.le_refl _))
            have O3 : Hid (wn.ownsRow wd.heap.size 46 4 (.slice q3 n3 z3) t'.hs.length (encL Evt.cells t'.hs)) := Lib.hid (own_monoT hw3 (Nat.le_refl _))
            have HBN := Lib.hid hbn
            clear hw1 hw2 hw3 hbn
            refine hK.out _ _ (.inr rfl) ?_
            clear hK K
            try simp only [Act.put, List.setIfInBounds_toArray, List.set_cons_zero, List.set_cons_succ]
            refine wpAnyG_takeU (i := 22) (oi := { dst := some 33, op := Op.move (Operand.tmp 55), type := 33, pos := "law.go:106", after := #[{ on := 21, ground := Ground.data }], guard := none }) (v := ?_) rfl (by kernel_rfl) (by kernel_rfl) (by kernel_rfl) (by decide) (fun _ _ _ h => h) (Or.inl ⟨by rfl, ?_⟩) (.inr rfl) ?_
            rotate_left
            · intro w hSw; go_simp; try with_reducible rfl
            try simp only [Act.put, List.setIfInBounds_toArray, List.set_cons_zero, List.set_cons_succ]
            refine wpAnyG_takeU (i := 23) (oi := { dst := some 56, op := Op.extract (Operand.tmp 33) 0, type := 27, pos := "law.go:106", after := #[{ on := 22, ground := Ground.data }], guard := none }) (v := ?_) rfl (by kernel_rfl) (by kernel_rfl) (by kernel_rfl) (by decide) (fun _ _ _ h => h) (Or.inl ⟨by rfl, ?_⟩) (.inr rfl) ?_
            rotate_left
            · intro w hSw; go_simp; try with_reducible rfl
            try simp only [Act.put, List.setIfInBounds_toArray, List.set_cons_zero, List.set_cons_succ]
            refine wpAnyG_takeU (i := 24) (oi := { dst := some 57, op := Op.extract (Operand.tmp 33) 1, type := 32, pos := "law.go:106", after := #[{ on := 22, ground := Ground.data }, { on := 26, ground := Ground.gcOnly Departure.lateStores }], guard := none }) (v := ?_) rfl (by kernel_rfl) (by kernel_rfl) (by kernel_rfl) (by decide) (fun _ _ _ h => h) (Or.inl ⟨by rfl, ?_⟩) (.inr rfl) ?_
            rotate_left
            · intro w hSw; go_simp; try with_reducible rfl
            try simp only [Act.put, List.setIfInBounds_toArray, List.set_cons_zero, List.set_cons_succ]
            refine wpAnyG_one (i := 25) (o := { dst := some 7, op := Op.alloc 27, type := 0, pos := "law.go:106", after := #[], guard := none }) (by kernel_rfl) rfl (fun K hK => ?_)
            go_simp
            refine hK.out _ _ (.inr rfl) ?_
            clear hK K
            try simp only [Act.put, List.setIfInBounds_toArray, List.set_cons_zero, List.set_cons_succ]
            have P1 := Lib.hid (recs_below O1.out ((Below.refl wn.heap.size wn).alloc (Nat.le_refl _) (.cells #[.int .u64 0, .string ⟨#[]⟩, .int .i64 0, .slice none 0 0, .slice none 0 0, .int .u64 0, .int .u64 0, .int .u64 0, .int .i64 0, .int .i64 0, .slice none 0 0] 27 (0, 0))))
            have P2 := Lib.hid (recs_below O2.out ((Below.refl wn.heap.size wn).alloc (Nat.le_refl _) (.cells #[.int .u64 0, .string ⟨#[]⟩, .int .i64 0, .slice none 0 0, .slice none 0 0, .int .u64 0, .int .u64 0, .int .u64 0, .int .i64 0, .int .i64 0, .slice none 0 0] 27 (0, 0))))
            have P3 := Lib.hid (recs_below O3.out ((Below.refl wn.heap.size wn).alloc (Nat.le_refl _) (.cells #[.int .u64 0, .string ⟨#[]⟩, .int .i64 0, .slice none 0 0, .slice none 0 0, .int .u64 0, .int .u64 0, .int .u64 0, .int .i64 0, .int .i64 0, .slice none 0 0] 27 (0, 0))))
            clear O1 O2 O3
            have HBY : Hid (Below wd.heap.size wd (wn.alloc (.cells #[.int .u64 0, .string ⟨#[]⟩, .int .i64 0, .slice none 0 0, .slice none 0 0, .int .u64 0, .int .u64 0, .int .u64 0, .int .i64 0, .int .i64 0, .slice none 0 0] 27 (0, 0)))) := Lib.hid (HBN.out.alloc HBN.out.size _)
            have HZ : Hid ((wn.alloc (.cells #[.int .u64 0, .string ⟨#[]⟩, .int .i64 0, .slice none 0 0, .slice none 0 0, .int .u64 0, .int .u64 0, .int .u64 0, .int .i64 0, .int .i64 0, .slice none 0 0] 27 (0, 0))).heap[wn.heap.size]? = some (.cells #[.int .u64 0, .string ⟨#[]⟩, .int .i64 0, .slice none 0 0, .slice none 0 0, .int .u64 0, .int .u64 0, .int .u64 0, .int .i64 0, .int .i64 0, .slice none 0 0] 27 (0, 0))) := Lib.hid (new_rowW _ _ _ rfl)
            have HG : Hid (wd.heap.size ≤ wn.heap.size) := Lib.hid HBN.out.size
            clear HBN
            generalize wn.alloc (.cells #[.int .u64 0, .string ⟨#[]⟩, .int .i64 0, .slice none 0 0, .slice none 0 0, .int .u64 0, .int .u64 0, .int .u64 0, .int .i64 0, .int .i64 0, .slice none 0 0] 27 (0, 0)) = Y at P1 P2 P3 HBY HZ ⊢
            generalize wn.heap.size = gy at HZ HG ⊢
            revert P1 P2 P3 HBY HZ HG
            revert Y gy q1 n1 z1 q2 n2 z2 q3 n3 z3
            exact hJ
          · go_simp
            have hHeldB := HCC.out (wd.alloc (.cells #[.int .u64 0, .string ⟨#[]⟩, .int .i64 0, .slice none 0 0, .slice none 0 0, .int .u64 0, .int .u64 0, .int .u64 0, .int .i64 0, .int .i64 0, .slice none 0 0] 27 (0, 0))) ((Below.refl _ _).alloc (Nat.le_refl _) _)
            refine hK.out _ _ (.inl hHeldB) ?_
            clear hK K
            try simp only [Act.put, List.setIfInBounds_toArray, List.set_cons_zero, List.set_cons_succ]
            refine wpAnyG_one (i := 21) (o := { dst := some 55, op := Op.call { callee := Callee.value (Operand.func 14), args := #[Operand.tmp 34, Operand.tmp 39, Operand.tmp 44, Operand.tmp 49, Operand.tmp 54], argTypes := #[27, 3, 3, 35, 22] }, type := 33, pos := "law.go:106", after := #[{ on := 0, ground := Ground.data }, { on := 5, ground := Ground.data }, { on := 10, ground := Ground.data }, { on := 15, ground := Ground.data }, { on := 20, ground := Ground.data }], guard := none }) (by kernel_rfl) rfl (fun K hK => ?_)
            go_simp
            go_at_call 14
            refine (HCH.out _ (HA.out.s.below ((Below.refl _ _).alloc (Nat.le_refl _) _))).mono ?_
            rintro e wn ⟨⟨q1, n1, z1⟩, ⟨q2, n2, z2⟩, ⟨q3, n3, z3⟩, rfl, hw1, hw2, hw3, hbn⟩
            dsimp only at hw1 hw2 hw3
            have O1 : Hid (wn.ownsRow wd.heap.size 44 6 (.slice q1 n1 z1) t'.cs.length (encL Cpn.cells t'.cs)) := Lib.hid (own_monoT hw1 (by simp))
            have O2 : Hid (wn.ownsRow wd.heap.size 48 2 (.slice q2 n2 z2) t'.ts.length (encL Txx.cells t'.ts)) := Lib.hid (own_monoT hw2 (by simp))
            have O3 : Hid (wn.ownsRow wd.heap.size 46 4 (.slice q3 n3 z3) t'.hs.length (encL Evt.cells t'.hs)) := Lib.hid (own_monoT hw3 (by simp))
            have HBN := Lib.hid hbn
            clear hw1 hw2 hw3 hbn
            refine hK.out _ _ (.inr rfl) ?_
            clear hK K
            try simp only [Act.put, List.setIfInBounds_toArray, List.set_cons_zero, List.set_cons_succ]
            refine wpAnyG_takeU (i := 22) (oi := { dst := some 33, op := Op.move (Operand.tmp 55), type := 33, pos := "law.go:106", after := #[{ on := 21, ground := Ground.data }], guard := none }) (v := ?_) rfl (by kernel_rfl) (by kernel_rfl) (by kernel_rfl) (by decide) (fun _ _ _ h => h) (Or.inl ⟨by rfl, ?_⟩) (.inr rfl) ?_
            rotate_left
            · intro w hSw; go_simp; try with_reducible rfl
            try simp only [Act.put, List.setIfInBounds_toArray, List.set_cons_zero, List.set_cons_succ]
            refine wpAnyG_takeU (i := 23) (oi := { dst := some 56, op := Op.extract (Operand.tmp 33) 0, type := 27, pos := "law.go:106", after := #[{ on := 22, ground := Ground.data }], guard := none }) (v := ?_) rfl (by kernel_rfl) (by kernel_rfl) (by kernel_rfl) (by decide) (fun _ _ _ h => h) (Or.inl ⟨by rfl, ?_⟩) (.inr rfl) ?_
            rotate_left
            · intro w hSw; go_simp; try with_reducible rfl
            try simp only [Act.put, List.setIfInBounds_toArray, List.set_cons_zero, List.set_cons_succ]
            refine wpAnyG_takeU (i := 24) (oi := { dst := some 57, op := Op.extract (Operand.tmp 33) 1, type := 32, pos := "law.go:106", after := #[{ on := 22, ground := Ground.data }, { on := 26, ground := Ground.gcOnly Departure.lateStores }], guard := none }) (v := ?_) rfl (by kernel_rfl) (by kernel_rfl) (by kernel_rfl) (by decide) (fun _ _ _ h => h) (Or.inl ⟨by rfl, ?_⟩) (.inr rfl) ?_
            rotate_left
            · intro w hSw; go_simp; try with_reducible rfl
            try simp only [Act.put, List.setIfInBounds_toArray, List.set_cons_zero, List.set_cons_succ]
            have P1 := Lib.hid O1.out
            have P2 := Lib.hid O2.out
            have P3 := Lib.hid O3.out
            clear O1 O2 O3
            have HBY : Hid (Below wd.heap.size wd wn) := Lib.hid (((Below.refl wd.heap.size wd).alloc (Nat.le_refl _) (.cells #[.int .u64 0, .string ⟨#[]⟩, .int .i64 0, .slice none 0 0, .slice none 0 0, .int .u64 0, .int .u64 0, .int .u64 0, .int .i64 0, .int .i64 0, .slice none 0 0] 27 (0, 0))).trans (HBN.out.mono (by simp)))
            have HZ : Hid (wn.heap[wd.heap.size]? = some (.cells #[.int .u64 0, .string ⟨#[]⟩, .int .i64 0, .slice none 0 0, .slice none 0 0, .int .u64 0, .int .u64 0, .int .u64 0, .int .i64 0, .int .i64 0, .slice none 0 0] 27 (0, 0))) := Lib.hid ((HBN.out.block _ (by simp)).trans (new_rowW _ _ _ rfl))
            clear HBN hHeldB
            generalize wn = Y at P1 P2 P3 HBY HZ ⊢
            obtain ⟨gy, hgy⟩ : ∃ gy, wd.heap.size = gy := ⟨_, rfl⟩
            rw [hgy] at HZ ⊢; have HG : Hid (wd.heap.size ≤ gy) := Lib.hid (Nat.le_of_eq hgy); clear hgy
            revert P1 P2 P3 HBY HZ HG
            revert Y gy q1 n1 z1 q2 n2 z2 q3 n3 z3
            exact hJ
        case k7 =>
          intro q1 n1 z1 q2 n2 z2 q3 n3 z3 Y gy P1 P2 P3 HBY HZ HG
          have th := there_rowT (n := 11) HZ.out rfl
          have h1n : ([.int .u64 t'.num, .string t'.loc, .int .i64 t'.iss, .slice q1 n1 z1, .slice q2 n2 z2, .int .u64 t'.prev, .int .u64 t'.org, .int .u64 t'.fst, .int .i64 t'.vou, .int .i64 t'.posts, .slice q3 n3 z3] : List Value).length = 11 := rfl
          have h1c : ([.int .u64 t'.num, .string t'.loc, .int .i64 t'.iss, .slice q1 n1 z1, .slice q2 n2 z2, .int .u64 t'.prev, .int .u64 t'.org, .int .u64 t'.fst, .int .i64 t'.vou, .int .i64 t'.posts, .slice q3 n3 z3] : List Value).all (·.oneCell') = true := rfl
          refine wpAnyG_one (i := 26) (o := { dst := none, op := Op.store 27 (Operand.tmp 7) (Operand.tmp 56), type := 0, pos := "law.go:106", after := #[{ on := 25, ground := Ground.data }, { on := 23, ground := Ground.data }, { on := 21, ground := Ground.chain }, { on := 0, ground := Ground.phase }, { on := 1, ground := Ground.phase }, { on := 2, ground := Ground.phase }, { on := 3, ground := Ground.phase }, { on := 4, ground := Ground.phase }, { on := 5, ground := Ground.phase }, { on := 6, ground := Ground.phase }, { on := 7, ground := Ground.phase }, { on := 8, ground := Ground.phase }, { on := 9, ground := Ground.phase }, { on := 10, ground := Ground.phase }, { on := 11, ground := Ground.phase }, { on := 12, ground := Ground.phase }, { on := 13, ground := Ground.phase }, { on := 14, ground := Ground.phase }, { on := 15, ground := Ground.phase }, { on := 16, ground := Ground.phase }, { on := 17, ground := Ground.phase }, { on := 18, ground := Ground.phase }, { on := 19, ground := Ground.phase }, { on := 20, ground := Ground.phase }, { on := 21, ground := Ground.phase }, { on := 22, ground := Ground.phase }, { on := 23, ground := Ground.phase }, { on := 24, ground := Ground.textOnly Departure.lateStores }, { on := 25, ground := Ground.phase }], guard := none }) (by kernel_rfl) rfl (fun K hK => ?_)
          go_simp
          refine hK.out _ _ (.inr rfl) ?_
          clear hK K
          try simp only [Act.put, List.setIfInBounds_toArray, List.set_cons_zero, List.set_cons_succ]
          refine wpAnyG_takeU (i := 27) (oi := { dst := some 8, op := Op.assign (Operand.tmp 57), type := 32, pos := "law.go:106", after := #[{ on := 24, ground := Ground.data }, { on := 26, ground := Ground.chain }, { on := 0, ground := Ground.phase }, { on := 1, ground := Ground.phase }, { on := 2, ground := Ground.phase }, { on := 3, ground := Ground.phase }, { on := 4, ground := Ground.phase }, { on := 5, ground := Ground.phase }, { on := 6, ground := Ground.phase }, { on := 7, ground := Ground.phase }, { on := 8, ground := Ground.phase }, { on := 9, ground := Ground.phase }, { on := 10, ground := Ground.phase }, { on := 11, ground := Ground.phase }, { on := 12, ground := Ground.phase }, { on := 13, ground := Ground.phase }, { on := 14, ground := Ground.phase }, { on := 15, ground := Ground.phase }, { on := 16, ground := Ground.phase }, { on := 17, ground := Ground.phase }, { on := 18, ground := Ground.phase }, { on := 19, ground := Ground.phase }, { on := 20, ground := Ground.phase }, { on := 21, ground := Ground.phase }, { on := 22, ground := Ground.phase }, { on := 23, ground := Ground.phase }, { on := 24, ground := Ground.phase }, { on := 25, ground := Ground.phase }, { on := 26, ground := Ground.phase }], guard := none }) (v := ?_) rfl (by kernel_rfl) (by kernel_rfl) (by kernel_rfl) (by decide) (fun _ _ _ h => h) (Or.inl ⟨by rfl, ?_⟩) (.inr rfl) ?_
          rotate_left
          · intro w hSw; go_simp; try with_reducible rfl
          try simp only [Act.put, List.setIfInBounds_toArray, List.set_cons_zero, List.set_cons_succ]
          refine wpAnyG_done (by kernel_rfl) ?_ _
          have HBW := Lib.hid (below_put HBY.out HG.out [.int .u64 t'.num, .string t'.loc, .int .i64 t'.iss, .slice q1 n1 z1, .slice q2 n2 z2, .int .u64 t'.prev, .int .u64 t'.org, .int .u64 t'.fst, .int .i64 t'.vou, .int .i64 t'.posts, .slice q3 n3 z3])
          have Hg7r := Lib.hid (setCells_rowT (cs := [.int .u64 t'.num, .string t'.loc, .int .i64 t'.iss, .slice q1 n1 z1, .slice q2 n2 z2, .int .u64 t'.prev, .int .u64 t'.org, .int .u64 t'.fst, .int .i64 t'.vou, .int .i64 t'.posts, .slice q3 n3 z3]) HZ.out rfl)
          have Hg7t := Lib.hid ((TS.of_own (t := t') (c := ⟨q1, n1, z1⟩) (x := ⟨q2, n2, z2⟩) (h := ⟨q3, n3, z3⟩) HWF.out P1.out P2.out P3.out).only (Off.of_row P1.out P2.out P3.out HZ.out) ((Only.refl gy Y).setCells 0 [.int .u64 t'.num, .string t'.loc, .int .i64 t'.iss, .slice q1 n1 z1, .slice q2 n2 z2, .int .u64 t'.prev, .int .u64 t'.org, .int .u64 t'.fst, .int .i64 t'.vou, .int .i64 t'.posts, .slice q3 n3 z3]))
          have Hg7o : Hid (Off w.heap.size t' ⟨q1, n1, z1⟩ ⟨q2, n2, z2⟩ ⟨q3, n3, z3⟩) := Lib.hid (Off.of_own P1.out P2.out P3.out (block_lt HA.out.r))
          have HA := Lib.hid (HA.out.below HBW.out)
          have HRg6 := Lib.hid ((HBW.out.block _ (block_lt HRg6.out)).trans HRg6.out)
          have HTO := Lib.hid (HTO.out.below HBW.out)
          clear HBW HBY HZ HG P1 P2 P3 HCC hHeld th h1n h1c
          generalize Y.setCells gy 0 [.int .u64 t'.num, .string t'.loc, .int .i64 t'.iss, .slice q1 n1 z1, .slice q2 n2 z2, .int .u64 t'.prev, .int .u64 t'.org, .int .u64 t'.fst, .int .i64 t'.vou, .int .i64 t'.posts, .slice q3 n3 z3] = w7 at *
          try clear wd
          generalize gy = g7 at *
          have HNE : Hid (g6 ≠ w.heap.size) := Lib.hid HNE0.out
          go_upto_if 59 with fail
          go_cut [] (fun wx => ∃ (u : Tk) (cu xu hu : Sl), CAt w wx w.heap.size u cu xu hu ∧ Tkt.Keeps t u ∧ Tkt.mayB u = true ∧ wx.heap[g6]? = some (.cells #[.int .u64 t.num, .string t.loc, .int .i64 t.iss, .slice c.p c.n c.c, .slice x.p x.n x.c, .int .u64 t.prev, .int .u64 t.org, .int .u64 t.fst, .int .i64 t.vou, .int .i64 t.posts, .slice h.p h.n h.c] 27 (0, 0)) ∧ TS wx t c x h)
          case first =>
            by_cases he0 : er = 0
            · subst he0
              obtain ⟨hmy, hln⟩ := chgT_ok HER.out HT'.out
              have HMY2 := Lib.hid hmy
              have HLN := Lib.hid hln
              have HKP := Lib.hid (keeps_chgT HER.out HT'.out)
              clear hmy hln
              skip
              obtain ⟨f1, f2⟩ := row_loT 11 HA.out.r rfl rfl
              obtain ⟨f5, f6⟩ := row_loT 11 Hg7r.out rfl rfl
              have th := there_rowT (n := 11) HA.out.r rfl
              have h1n : ([.int .u64 t'.num, .string t'.loc, .int .i64 t'.iss, .slice q1 n1 z1, .slice q2 n2 z2, .int .u64 t'.prev, .int .u64 t'.org, .int .u64 t'.fst, .int .i64 t'.vou, .int .i64 t'.posts, .slice q3 n3 z3] : List Value).length = 11 := rfl
              have h1c : ([.int .u64 t'.num, .string t'.loc, .int .i64 t'.iss, .slice q1 n1 z1, .slice q2 n2 z2, .int .u64 t'.prev, .int .u64 t'.org, .int .u64 t'.fst, .int .i64 t'.vou, .int .i64 t'.posts, .slice q3 n3 z3] : List Value).all (·.oneCell') = true := rfl
              go_wp2_with fail
              go_meet
              exact ⟨t', ⟨q1, n1, z1⟩, ⟨q2, n2, z2⟩, ⟨q3, n3, z3⟩, HA.out.turn (Nat.le_refl _) rfl Hg7t.out Hg7o.out HLN.out, HKP.out, HMY2.out, (((Only.refl w.heap.size w7).setCells 0 _).block _ (block_lt HRg6.out) HNE.out).trans HRg6.out, HTO.out.only HA.out.o ((Only.refl w.heap.size w7).setCells 0 _)⟩
            · have he1 : (er == 0) = false := by simpa using he0
              clear he0
              go_wp2_with fail
              go_meet
              exact ⟨t, c, x, h, HA.out, .rfl, HMY.out, HRg6.out, HTO.out⟩
          case rest =>
            obtain ⟨u, cu, xu, hu, hA, hK, hM, hW6, hT6⟩ := hcut
            have HA := Lib.hid hA
            have HKP := Lib.hid hK
            have HMU2 := Lib.hid hM
            have HRg6 := Lib.hid hW6
            have HTO := Lib.hid hT6
            clear hA hK hM hW6 hT6 Hg7r Hg7t Hg7o
            have HNU : Hid (cu.n = u.cs.length) := Lib.hid HA.out.s.cs.length.1
            have HNC : Hid (c.n = t.cs.length) := Lib.hid HTO.out.cs.length.1
            have hnn : cu.n = c.n := by rw [HNU.out, HNC.out]; exact HKP.out.len
            have HNN := Lib.hid hnn
            have hcu := fun j => cell_of_row wc w.heap.size j _ _ _ HA.out.r
            have hc6 := fun j => cell_of_row wc g6 j _ _ _ HRg6.out
            have hnb : ((cu.n : Int) != (c.n : Int)) = false := by rw [hnn]; simp
            clear hnn
            go_wp2_with fail
            clear hcu hc6 hnb
            go_loopw [9] (fun i wr => ∃ j : Nat, j ≤ c.n ∧ i = .int .i64 j ∧ Below wc.heap.size wc wr) (fun i _ => c.n - (intOf i).toNat)
            case atStart => exact ⟨0, Nat.zero_le _, rfl, Below.refl _ _⟩
            case round =>
              obtain ⟨j, hj, rfl, hbz⟩ := hrel
              have HBZ := Lib.hid hbz
              clear hbz
              have hcb : c.n ≤ 20 := by have := HNC.out; have := HNN.out; have := HNU.out; have := HA.out.l; omega
              by_cases hlj : j < c.n
              · obtain ⟨z, hz⟩ : ∃ z, t.cs[j]? = some z := ⟨_, List.getElem?_eq_getElem (by have := HNC.out; omega)⟩
                obtain ⟨y, hy⟩ : ∃ y, u.cs[j]? = some y := ⟨_, List.getElem?_eq_getElem (by have := HNU.out; have := HNN.out; omega)⟩
                have HZ := Lib.hid hz
                have HY := Lib.hid hy
                obtain ⟨cb, cf, hp, hbl, hrz⟩ := (HTO.out.below HBZ.out).cs.at hz
                obtain ⟨ub, uf, hpu, hblu, hry⟩ := (HA.out.below HBZ.out).s.cs.at hy
                have HP := Lib.hid hp
                have HPU := Lib.hid hpu
                clear hp hpu hbl hblu hrz hry
                obtain ⟨cz, hcz⟩ : ∃ l, z.cells = l := ⟨_, rfl⟩
                obtain ⟨cy, hcy⟩ : ∃ l, y.cells = l := ⟨_, rfl⟩
                have HCZ := Lib.hid hcz
                have HCY := Lib.hid hcy
                have hE : ∀ W, y = z → (Op.equalIn 10000 44 (.agg cy.toArray) (.agg cz.toArray)).run Try.prog W = .ok true W := fun W e => by subst e; rw [← hcz, ← hcy]; have := eqInCp y y W; rwa [(Cpn.eqB_iff y y).2 rfl] at this
                have HE := Lib.hid hE
                have HCC : Hid (∀ W, Below wr.heap.size wr W → (W.cell? ⟨g6, 3, none⟩ = some (.slice (some ⟨cb, cf, none⟩) c.n c.c) ∧ W.cell? ⟨w.heap.size, 3, none⟩ = some (.slice (some ⟨ub, uf, none⟩) cu.n cu.c) ∧ W.cell? ⟨cb, cf + j * 6 + 3, none⟩ = some (.int .i64 z.st) ∧ (loL 6 W cb (cf + j * 6) = cz ∧ okL 6 W cb (cf + j * 6)) ∧ (loL 6 W ub (uf + j * 6) = cy ∧ okL 6 W ub (uf + j * 6)))) := Lib.hid (fun W hW => by
                  have hb := HBZ.out.trans (hW.mono HBZ.out.size)
                  obtain ⟨b1, o1, e1, -, r1⟩ := (HTO.out.below hb).cs.at HZ.out
                  obtain ⟨b2, o2, e2, -, r2⟩ := (HA.out.below hb).s.cs.at HY.out
                  rw [HP.out] at e1; rw [HPU.out] at e2
                  injection e1 with e1; injection e1 with e3 e4; injection e2 with e2; injection e2 with e5 e6; subst e3 e4 e5 e6
                  refine ⟨?_, ?_, r1 3 _ rfl, ?_, ?_⟩
                  · rw [← HP.out]; exact cell_of_row W g6 3 _ _ _ ((hb.block _ (block_lt HRg6.out)).trans HRg6.out)
                  · rw [← HPU.out]; exact cell_of_row W w.heap.size 3 _ _ _ (HA.out.below hb).r
                  · rw [← HCZ.out]; exact loL_of r1 (Cpn.cells_length z)
                  · rw [← HCY.out]; exact loL_of r2 (Cpn.cells_length y))
                clear hE hcz hcy hz hy
                have hG := guardneqCp
                have hG2 := guardeqlCp
                have HLS := Lib.hid (fun W => last12_any z.st W)
                have hnu : j < cu.n := by have := HNN.out; omega
                by_cases hlb : Tkt.lastB z.st = true
                · have hyz : y = z := by have := HKP.out.at_ j z HZ.out hlb; rw [HY.out] at this; injection this
                  have hE2 := fun W => HE.out W hyz
                  rw [hlb] at HLS
                  have HL := Lib.hid hlb
                  clear hlb
                  have hc6 : wr.cell? ⟨g6, 3, none⟩ = some (.slice (some ⟨cb, cf, none⟩) c.n c.c) := (HCC.out wr (Below.refl _ _)).1
                  go_upto_region 15 with fail
                  clear hc6
                  have hHeld := HCC.out wr.drew (Below.refl _ _).drew
                  refine wp_region_G (C := fun W => W.cell? ⟨g6, 3, none⟩ = some (.slice (some ⟨cb, cf, none⟩) c.n c.c) ∧ W.cell? ⟨w.heap.size, 3, none⟩ = some (.slice (some ⟨ub, uf, none⟩) cu.n cu.c) ∧ W.cell? ⟨cb, cf + j * 6 + 3, none⟩ = some (.int .i64 z.st) ∧ (loL 6 W cb (cf + j * 6) = cz ∧ okL 6 W cb (cf + j * 6)) ∧ (loL 6 W ub (uf + j * 6) = cy ∧ okL 6 W ub (uf + j * 6))) (s0 := 19) (by kernel_rfl) ?_
                  refine wpAnyG_takeU (i := 0) (oi := { dst := some 75, op := Op.fieldAddr 27 (Operand.tmp 6) 3, type := 0, pos := "law.go:114", after := #[], guard := none }) (v := ?_) rfl (by kernel_rfl) (by kernel_rfl) (by kernel_rfl) (by decide) (fun _ _ _ h => h) (Or.inl ⟨by rfl, ?_⟩) (.inl (by assumption)) ?_
                  rotate_left
                  · intro w hSw; go_simp; try with_reducible rfl
                  try simp only [Act.put, List.setIfInBounds_toArray, List.set_cons_zero, List.set_cons_succ]
                  refine wpAnyG_takeM (i := 1) (oi := { dst := some 76, op := Op.load 23 (Operand.tmp 75), type := 23, pos := "law.go:114", after := #[{ on := 0, ground := Ground.data }], guard := none }) (v := ?_) (ms := [3, 4, 5, 6, 7, 8, 9, 10, 11, 12, 13, 14, 15, 16, 17, 18, 19]) rfl (by kernel_rfl) (by kernel_rfl) (by kernel_rfl) (by kernel_rfl) (by kernel_rfl) (fun _ _ _ h => h) (Or.inl ⟨by rfl, ?_⟩) (by assumption) ?_
                  rotate_left
                  · intro w hSw; (try dsimp only at hSw); go_simp; try with_reducible rfl
                  try simp only [Act.put, List.setIfInBounds_toArray, List.set_cons_zero, List.set_cons_succ]
                  refine wpAnyG_takeU (i := 2) (oi := { dst := some 77, op := Op.move (Operand.tmp 9), type := 3, pos := "law.go:114", after := #[], guard := none }) (v := ?_) rfl (by kernel_rfl) (by kernel_rfl) (by kernel_rfl) (by decide) (fun _ _ _ h => h) (Or.inl ⟨by rfl, ?_⟩) (.inl (by assumption)) ?_
                  rotate_left
                  · intro w hSw; go_simp; try with_reducible rfl
                  try simp only [Act.put, List.setIfInBounds_toArray, List.set_cons_zero, List.set_cons_succ]
                  refine wpAnyG_takeU (i := 3) (oi := { dst := some 78, op := Op.indexAddr 23 (Operand.tmp 76) (Operand.tmp 77), type := 0, pos := "law.go:114", after := #[{ on := 1, ground := Ground.data }, { on := 2, ground := Ground.data }], guard := none }) (v := ?_) rfl (by kernel_rfl) (by kernel_rfl) (by kernel_rfl) (by decide) (fun _ _ _ h => h) (Or.inl ⟨by rfl, ?_⟩) (.inl (by assumption)) ?_
                  rotate_left
                  · intro w hSw; go_simp; try with_reducible rfl
                  try simp only [Act.put, List.setIfInBounds_toArray, List.set_cons_zero, List.set_cons_succ]
                  refine wpAnyG_takeU (i := 4) (oi := { dst := some 79, op := Op.fieldAddr 44 (Operand.tmp 78) 3, type := 0, pos := "law.go:114", after := #[{ on := 3, ground := Ground.data }], guard := none }) (v := ?_) rfl (by kernel_rfl) (by kernel_rfl) (by kernel_rfl) (by decide) (fun _ _ _ h => h) (Or.inl ⟨by rfl, ?_⟩) (.inl (by assumption)) ?_
                  rotate_left
                  · intro w hSw; go_simp; try with_reducible rfl
                  try simp only [Act.put, List.setIfInBounds_toArray, List.set_cons_zero, List.set_cons_succ]
                  refine wpAnyG_takeM (i := 5) (oi := { dst := some 80, op := Op.load 35 (Operand.tmp 79), type := 35, pos := "law.go:114", after := #[{ on := 4, ground := Ground.data }], guard := none }) (v := ?_) (ms := [6, 7, 8, 9, 10, 11, 12, 13, 14, 15, 16, 17, 18, 19]) rfl (by kernel_rfl) (by kernel_rfl) (by kernel_rfl) (by kernel_rfl) (by kernel_rfl) (fun _ _ _ h => h) (Or.inl ⟨by rfl, ?_⟩) (by assumption) ?_
                  rotate_left
                  · intro w hSw; (try dsimp only at hSw); go_simp; try with_reducible rfl
                  try simp only [Act.put, List.setIfInBounds_toArray, List.set_cons_zero, List.set_cons_succ]
                  refine wpAnyG_one (i := 6) (o := { dst := some 81, op := Op.call { callee := Callee.value (Operand.func 19), args := #[Operand.tmp 80], argTypes := #[35] }, type := 4, pos := "law.go:114", after := #[{ on := 5, ground := Ground.data }], guard := none }) (by kernel_rfl) rfl (fun K hK => ?_)
                  go_simp
                  go_at_call 19
                  refine (HLS.out _).mono ?_
                  rintro e wn ⟨rfl, hbn⟩
                  have HBN := Lib.hid hbn
                  have hHeld := HCC.out wn ((Below.refl wr.heap.size wr).drew.trans (hbn.mono (by simp)))
                  clear hbn
                  refine hK.out _ _ (.inl hHeld) ?_
                  clear hK K
                  try simp only [Act.put, List.setIfInBounds_toArray, List.set_cons_zero, List.set_cons_succ]
                  refine wpAnyG_takeU (i := 7) (oi := { dst := some 82, op := Op.move (Operand.tmp 81), type := 4, pos := "law.go:114", after := #[{ on := 6, ground := Ground.data }, { on := 6, ground := Ground.chain }], guard := none }) (v := ?_) rfl (by kernel_rfl) (by kernel_rfl) (by kernel_rfl) (by decide) (fun _ _ _ h => h) (Or.inl ⟨by rfl, ?_⟩) (.inl (by assumption)) ?_
                  rotate_left
                  · intro w hSw; go_simp; try with_reducible rfl
                  try simp only [Act.put, List.setIfInBounds_toArray, List.set_cons_zero, List.set_cons_succ]
                  refine wpAnyG_takeU (i := 8) (oi := { dst := some 83, op := Op.fieldAddr 27 (Operand.tmp 2) 3, type := 0, pos := "law.go:114", after := #[{ on := 7, ground := Ground.guard }], guard := some (7, true) }) (v := ?_) rfl (by kernel_rfl) (by kernel_rfl) (by kernel_rfl) (by decide) (fun _ _ _ h => h) (Or.inl ⟨by rfl, ?_⟩) (.inl (by assumption)) ?_
                  rotate_left
                  · intro w hSw; go_simp; try with_reducible rfl
                  try simp only [Act.put, List.setIfInBounds_toArray, List.set_cons_zero, List.set_cons_succ]
                  refine wpAnyG_takeM (i := 9) (oi := { dst := some 84, op := Op.load 23 (Operand.tmp 83), type := 23, pos := "law.go:114", after := #[{ on := 8, ground := Ground.data }, { on := 7, ground := Ground.guard }], guard := some (7, true) }) (v := ?_) (ms := [11, 12, 18, 19]) rfl (by kernel_rfl) (by kernel_rfl) (by kernel_rfl) (by kernel_rfl) (by kernel_rfl) (fun _ _ _ h => h) (Or.inl ⟨by rfl, ?_⟩) (by assumption) ?_
                  rotate_left
                  · intro w hSw; (try dsimp only at hSw); go_simp; try with_reducible rfl
                  try simp only [Act.put, List.setIfInBounds_toArray, List.set_cons_zero, List.set_cons_succ]
                  refine wpAnyG_takeU (i := 10) (oi := { dst := some 85, op := Op.move (Operand.tmp 9), type := 3, pos := "law.go:114", after := #[{ on := 7, ground := Ground.guard }], guard := some (7, true) }) (v := ?_) rfl (by kernel_rfl) (by kernel_rfl) (by kernel_rfl) (by decide) (fun _ _ _ h => h) (Or.inl ⟨by rfl, ?_⟩) (.inl (by assumption)) ?_
                  rotate_left
                  · intro w hSw; go_simp; try with_reducible rfl
                  try simp only [Act.put, List.setIfInBounds_toArray, List.set_cons_zero, List.set_cons_succ]
                  refine wpAnyG_takeU (i := 11) (oi := { dst := some 86, op := Op.indexAddr 23 (Operand.tmp 84) (Operand.tmp 85), type := 0, pos := "law.go:114", after := #[{ on := 9, ground := Ground.data }, { on := 10, ground := Ground.data }, { on := 7, ground := Ground.guard }], guard := some (7, true) }) (v := ?_) rfl (by kernel_rfl) (by kernel_rfl) (by kernel_rfl) (by decide) (fun _ _ _ h => h) (Or.inl ⟨by rfl, ?_⟩) (.inl (by assumption)) ?_
                  rotate_left
                  · intro w hSw; go_simp; try with_reducible rfl
                  try simp only [Act.put, List.setIfInBounds_toArray, List.set_cons_zero, List.set_cons_succ]
                  refine wpAnyG_takeM (i := 12) (oi := { dst := some 87, op := Op.load 44 (Operand.tmp 86), type := 44, pos := "law.go:114", after := #[{ on := 11, ground := Ground.data }, { on := 7, ground := Ground.guard }], guard := some (7, true) }) (v := ?_) (ms := [18, 19]) rfl (by kernel_rfl) (by kernel_rfl) (by kernel_rfl) (by kernel_rfl) (by kernel_rfl) (fun _ _ _ h => h) (Or.inl ⟨by rfl, ?_⟩) (by assumption) ?_
                  rotate_left
                  · intro w hSw; (try dsimp only at hSw); go_simp; try with_reducible rfl
                  try simp only [Act.put, List.setIfInBounds_toArray, List.set_cons_zero, List.set_cons_succ]
                  refine wpAnyG_takeU (i := 13) (oi := { dst := some 88, op := Op.fieldAddr 27 (Operand.tmp 6) 3, type := 0, pos := "law.go:114", after := #[{ on := 7, ground := Ground.guard }], guard := some (7, true) }) (v := ?_) rfl (by kernel_rfl) (by kernel_rfl) (by kernel_rfl) (by decide) (fun _ _ _ h => h) (Or.inl ⟨by rfl, ?_⟩) (.inl (by assumption)) ?_
                  rotate_left
                  · intro w hSw; go_simp; try with_reducible rfl
                  try simp only [Act.put, List.setIfInBounds_toArray, List.set_cons_zero, List.set_cons_succ]
                  refine wpAnyG_takeM (i := 14) (oi := { dst := some 89, op := Op.load 23 (Operand.tmp 88), type := 23, pos := "law.go:114", after := #[{ on := 13, ground := Ground.data }, { on := 7, ground := Ground.guard }], guard := some (7, true) }) (v := ?_) (ms := [16, 17, 18, 19]) rfl (by kernel_rfl) (by kernel_rfl) (by kernel_rfl) (by kernel_rfl) (by kernel_rfl) (fun _ _ _ h => h) (Or.inl ⟨by rfl, ?_⟩) (by assumption) ?_
                  rotate_left
                  · intro w hSw; (try dsimp only at hSw); go_simp; try with_reducible rfl
                  try simp only [Act.put, List.setIfInBounds_toArray, List.set_cons_zero, List.set_cons_succ]
                  refine wpAnyG_takeU (i := 15) (oi := { dst := some 90, op := Op.move (Operand.tmp 9), type := 3, pos := "law.go:114", after := #[{ on := 7, ground := Ground.guard }], guard := some (7, true) }) (v := ?_) rfl (by kernel_rfl) (by kernel_rfl) (by kernel_rfl) (by decide) (fun _ _ _ h => h) (Or.inl ⟨by rfl, ?_⟩) (.inl (by assumption)) ?_
                  rotate_left
                  · intro w hSw; go_simp; try with_reducible rfl
                  try simp only [Act.put, List.setIfInBounds_toArray, List.set_cons_zero, List.set_cons_succ]
                  refine wpAnyG_takeU (i := 16) (oi := { dst := some 91, op := Op.indexAddr 23 (Operand.tmp 89) (Operand.tmp 90), type := 0, pos := "law.go:114", after := #[{ on := 14, ground := Ground.data }, { on := 15, ground := Ground.data }, { on := 7, ground := Ground.guard }], guard := some (7, true) }) (v := ?_) rfl (by kernel_rfl) (by kernel_rfl) (by kernel_rfl) (by decide) (fun _ _ _ h => h) (Or.inl ⟨by rfl, ?_⟩) (.inl (by assumption)) ?_
                  rotate_left
                  · intro w hSw; go_simp; try with_reducible rfl
                  try simp only [Act.put, List.setIfInBounds_toArray, List.set_cons_zero, List.set_cons_succ]
                  refine wpAnyG_takeM (i := 17) (oi := { dst := some 92, op := Op.load 44 (Operand.tmp 91), type := 44, pos := "law.go:114", after := #[{ on := 16, ground := Ground.data }, { on := 7, ground := Ground.guard }], guard := some (7, true) }) (v := ?_) (ms := [18, 19]) rfl (by kernel_rfl) (by kernel_rfl) (by kernel_rfl) (by kernel_rfl) (by kernel_rfl) (fun _ _ _ h => h) (Or.inl ⟨by rfl, ?_⟩) (by assumption) ?_
                  rotate_left
                  · intro w hSw; (try dsimp only at hSw); go_simp; try with_reducible rfl
                  try simp only [Act.put, List.setIfInBounds_toArray, List.set_cons_zero, List.set_cons_succ]
                  refine wpAnyG_takeU (i := 18) (oi := { dst := some 93, op := Op.binOp BinOp.neq 44 (Operand.tmp 87) (Operand.tmp 92) 44, type := 4, pos := "law.go:114", after := #[{ on := 12, ground := Ground.data }, { on := 17, ground := Ground.data }, { on := 7, ground := Ground.guard }], guard := some (7, true) }) (v := ?_) rfl (by kernel_rfl) (by kernel_rfl) (by kernel_rfl) (by decide) (fun _ _ _ h => h) (Or.inl ⟨by rfl, ?_⟩) (.inl (by assumption)) ?_
                  rotate_left
                  · intro w hSw; go_simp; try with_reducible rfl
                  try simp only [Act.put, List.setIfInBounds_toArray, List.set_cons_zero, List.set_cons_succ]
                  refine wpAnyG_one (i := 19) (o := { dst := some 94, op := Op.pick (Operand.tmp 82) (Operand.tmp 93) (Operand.const (Value.bool false)), type := 4, pos := "law.go:114", after := #[{ on := 7, ground := Ground.data }, { on := 18, ground := Ground.data }], guard := none }) (by kernel_rfl) rfl (fun K hK => ?_)
                  go_simp
                  refine hK.out _ _ (.inr rfl) ?_
                  clear hK K
                  try simp only [Act.put, List.setIfInBounds_toArray, List.set_cons_zero, List.set_cons_succ]
                  refine wpAnyG_done (by kernel_rfl) ?_ _
                  have HBZ := Lib.hid (HBZ.out.trans (((Below.refl wr.heap.size wr).drew.trans (HBN.out.mono (by simp))).mono HBZ.out.size))
                  clear hHeld HBN hG hG2
                  clear hE2
                  go_wp2_with fail
                  go_roundw
                  case rel => exact ⟨j + 1, by omega, by go_num, HBZ.out⟩
                  case measure => simp [intOf]; omega
                · have hlf : Tkt.lastB z.st = false := by simpa using hlb
                  rw [hlf] at HLS
                  clear hlb hlf
                  have hc6 : wr.cell? ⟨g6, 3, none⟩ = some (.slice (some ⟨cb, cf, none⟩) c.n c.c) := (HCC.out wr (Below.refl _ _)).1
                  go_upto_region 15 with fail
                  clear hc6
                  have hHeld := HCC.out wr.drew (Below.refl _ _).drew
                  refine wp_region_G (C := fun W => W.cell? ⟨g6, 3, none⟩ = some (.slice (some ⟨cb, cf, none⟩) c.n c.c) ∧ W.cell? ⟨w.heap.size, 3, none⟩ = some (.slice (some ⟨ub, uf, none⟩) cu.n cu.c) ∧ W.cell? ⟨cb, cf + j * 6 + 3, none⟩ = some (.int .i64 z.st) ∧ (loL 6 W cb (cf + j * 6) = cz ∧ okL 6 W cb (cf + j * 6)) ∧ (loL 6 W ub (uf + j * 6) = cy ∧ okL 6 W ub (uf + j * 6))) (s0 := 19) (by kernel_rfl) ?_
                  refine wpAnyG_takeU (i := 0) (oi := { dst := some 75, op := Op.fieldAddr 27 (Operand.tmp 6) 3, type := 0, pos := "law.go:114", after := #[], guard := none }) (v := ?_) rfl (by kernel_rfl) (by kernel_rfl) (by kernel_rfl) (by decide) (fun _ _ _ h => h) (Or.inl ⟨by rfl, ?_⟩) (.inl (by assumption)) ?_
                  rotate_left
                  · intro w hSw; go_simp; try with_reducible rfl
                  try simp only [Act.put, List.setIfInBounds_toArray, List.set_cons_zero, List.set_cons_succ]
                  refine wpAnyG_takeM (i := 1) (oi := { dst := some 76, op := Op.load 23 (Operand.tmp 75), type := 23, pos := "law.go:114", after := #[{ on := 0, ground := Ground.data }], guard := none }) (v := ?_) (ms := [3, 4, 5, 6, 7, 8, 9, 10, 11, 12, 13, 14, 15, 16, 17, 18, 19]) rfl (by kernel_rfl) (by kernel_rfl) (by kernel_rfl) (by kernel_rfl) (by kernel_rfl) (fun _ _ _ h => h) (Or.inl ⟨by rfl, ?_⟩) (by assumption) ?_
                  rotate_left
                  · intro w hSw; (try dsimp only at hSw); go_simp; try with_reducible rfl
                  try simp only [Act.put, List.setIfInBounds_toArray, List.set_cons_zero, List.set_cons_succ]
                  refine wpAnyG_takeU (i := 2) (oi := { dst := some 77, op := Op.move (Operand.tmp 9), type := 3, pos := "law.go:114", after := #[], guard := none }) (v := ?_) rfl (by kernel_rfl) (by kernel_rfl) (by kernel_rfl) (by decide) (fun _ _ _ h => h) (Or.inl ⟨by rfl, ?_⟩) (.inl (by assumption)) ?_
                  rotate_left
                  · intro w hSw; go_simp; try with_reducible rfl
                  try simp only [Act.put, List.setIfInBounds_toArray, List.set_cons_zero, List.set_cons_succ]
                  refine wpAnyG_takeU (i := 3) (oi := { dst := some 78, op := Op.indexAddr 23 (Operand.tmp 76) (Operand.tmp 77), type := 0, pos := "law.go:114", after := #[{ on := 1, ground := Ground.data }, { on := 2, ground := Ground.data }], guard := none }) (v := ?_) rfl (by kernel_rfl) (by kernel_rfl) (by kernel_rfl) (by decide) (fun _ _ _ h => h) (Or.inl ⟨by rfl, ?_⟩) (.inl (by assumption)) ?_
                  rotate_left
                  · intro w hSw; go_simp; try with_reducible rfl
                  try simp only [Act.put, List.setIfInBounds_toArray, List.set_cons_zero, List.set_cons_succ]
                  refine wpAnyG_takeU (i := 4) (oi := { dst := some 79, op := Op.fieldAddr 44 (Operand.tmp 78) 3, type := 0, pos := "law.go:114", after := #[{ on := 3, ground := Ground.data }], guard := none }) (v := ?_) rfl (by kernel_rfl) (by kernel_rfl) (by kernel_rfl) (by decide) (fun _ _ _ h => h) (Or.inl ⟨by rfl, ?_⟩) (.inl (by assumption)) ?_
                  rotate_left
                  · intro w hSw; go_simp; try with_reducible rfl
                  try simp only [Act.put, List.setIfInBounds_toArray, List.set_cons_zero, List.set_cons_succ]
                  refine wpAnyG_takeM (i := 5) (oi := { dst := some 80, op := Op.load 35 (Operand.tmp 79), type := 35, pos := "law.go:114", after := #[{ on := 4, ground := Ground.data }], guard := none }) (v := ?_) (ms := [6, 7, 8, 9, 10, 11, 12, 13, 14, 15, 16, 17, 18, 19]) rfl (by kernel_rfl) (by kernel_rfl) (by kernel_rfl) (by kernel_rfl) (by kernel_rfl) (fun _ _ _ h => h) (Or.inl ⟨by rfl, ?_⟩) (by assumption) ?_
                  rotate_left
                  · intro w hSw; (try dsimp only at hSw); go_simp; try with_reducible rfl
                  try simp only [Act.put, List.setIfInBounds_toArray, List.set_cons_zero, List.set_cons_succ]
                  refine wpAnyG_one (i := 6) (o := { dst := some 81, op := Op.call { callee := Callee.value (Operand.func 19), args := #[Operand.tmp 80], argTypes := #[35] }, type := 4, pos := "law.go:114", after := #[{ on := 5, ground := Ground.data }], guard := none }) (by kernel_rfl) rfl (fun K hK => ?_)
                  go_simp
                  go_at_call 19
                  refine (HLS.out _).mono ?_
                  rintro e wn ⟨rfl, hbn⟩
                  have HBN := Lib.hid hbn
                  have hHeld := HCC.out wn ((Below.refl wr.heap.size wr).drew.trans (hbn.mono (by simp)))
                  clear hbn
                  refine hK.out _ _ (.inl hHeld) ?_
                  clear hK K
                  try simp only [Act.put, List.setIfInBounds_toArray, List.set_cons_zero, List.set_cons_succ]
                  refine wpAnyG_takeU (i := 7) (oi := { dst := some 82, op := Op.move (Operand.tmp 81), type := 4, pos := "law.go:114", after := #[{ on := 6, ground := Ground.data }, { on := 6, ground := Ground.chain }], guard := none }) (v := ?_) rfl (by kernel_rfl) (by kernel_rfl) (by kernel_rfl) (by decide) (fun _ _ _ h => h) (Or.inl ⟨by rfl, ?_⟩) (.inl (by assumption)) ?_
                  rotate_left
                  · intro w hSw; go_simp; try with_reducible rfl
                  try simp only [Act.put, List.setIfInBounds_toArray, List.set_cons_zero, List.set_cons_succ]
                  refine wpAnyG_takeU (i := 8) (oi := { dst := some 83, op := Op.fieldAddr 27 (Operand.tmp 2) 3, type := 0, pos := "law.go:114", after := #[{ on := 7, ground := Ground.guard }], guard := some (7, true) }) (v := undef) rfl (by kernel_rfl) (by kernel_rfl) (by kernel_rfl) (by decide) (fun _ _ _ h => h) (Or.inr ⟨by rfl, rfl⟩) (.inl (by assumption)) ?_
                  try simp only [Act.put, List.setIfInBounds_toArray, List.set_cons_zero, List.set_cons_succ]
                  refine wpAnyG_takeU (i := 9) (oi := { dst := some 84, op := Op.load 23 (Operand.tmp 83), type := 23, pos := "law.go:114", after := #[{ on := 8, ground := Ground.data }, { on := 7, ground := Ground.guard }], guard := some (7, true) }) (v := undef) rfl (by kernel_rfl) (by kernel_rfl) (by kernel_rfl) (by decide) (fun _ _ _ h => h) (Or.inr ⟨by rfl, rfl⟩) (.inl (by assumption)) ?_
                  try simp only [Act.put, List.setIfInBounds_toArray, List.set_cons_zero, List.set_cons_succ]
                  refine wpAnyG_takeU (i := 10) (oi := { dst := some 85, op := Op.move (Operand.tmp 9), type := 3, pos := "law.go:114", after := #[{ on := 7, ground := Ground.guard }], guard := some (7, true) }) (v := undef) rfl (by kernel_rfl) (by kernel_rfl) (by kernel_rfl) (by decide) (fun _ _ _ h => h) (Or.inr ⟨by rfl, rfl⟩) (.inl (by assumption)) ?_
                  try simp only [Act.put, List.setIfInBounds_toArray, List.set_cons_zero, List.set_cons_succ]
                  refine wpAnyG_takeU (i := 11) (oi := { dst := some 86, op := Op.indexAddr 23 (Operand.tmp 84) (Operand.tmp 85), type := 0, pos := "law.go:114", after := #[{ on := 9, ground := Ground.data }, { on := 10, ground := Ground.data }, { on := 7, ground := Ground.guard }], guard := some (7, true) }) (v := undef) rfl (by kernel_rfl) (by kernel_rfl) (by kernel_rfl) (by decide) (fun _ _ _ h => h) (Or.inr ⟨by rfl, rfl⟩) (.inl (by assumption)) ?_
                  try simp only [Act.put, List.setIfInBounds_toArray, List.set_cons_zero, List.set_cons_succ]
                  refine wpAnyG_takeU (i := 12) (oi := { dst := some 87, op := Op.load 44 (Operand.tmp 86), type := 44, pos := "law.go:114", after := #[{ on := 11, ground := Ground.data }, { on := 7, ground := Ground.guard }], guard := some (7, true) }) (v := undef) rfl (by kernel_rfl) (by kernel_rfl) (by kernel_rfl) (by decide) (fun _ _ _ h => h) (Or.inr ⟨by rfl, rfl⟩) (.inl (by assumption)) ?_
                  try simp only [Act.put, List.setIfInBounds_toArray, List.set_cons_zero, List.set_cons_succ]
                  refine wpAnyG_takeU (i := 13) (oi := { dst := some 88, op := Op.fieldAddr 27 (Operand.tmp 6) 3, type := 0, pos := "law.go:114", after := #[{ on := 7, ground := Ground.guard }], guard := some (7, true) }) (v := undef) rfl (by kernel_rfl) (by kernel_rfl) (by kernel_rfl) (by decide) (fun _ _ _ h => h) (Or.inr ⟨by rfl, rfl⟩) (.inl (by assumption)) ?_
                  try simp only [Act.put, List.setIfInBounds_toArray, List.set_cons_zero, List.set_cons_succ]
                  refine wpAnyG_takeU (i := 14) (oi := { dst := some 89, op := Op.load 23 (Operand.tmp 88), type := 23, pos := "law.go:114", after := #[{ on := 13, ground := Ground.data }, { on := 7, ground := Ground.guard }], guard := some (7, true) }) (v := undef) rfl (by kernel_rfl) (by kernel_rfl) (by kernel_rfl) (by decide) (fun _ _ _ h => h) (Or.inr ⟨by rfl, rfl⟩) (.inl (by assumption)) ?_
                  try simp only [Act.put, List.setIfInBounds_toArray, List.set_cons_zero, List.set_cons_succ]
                  refine wpAnyG_takeU (i := 15) (oi := { dst := some 90, op := Op.move (Operand.tmp 9), type := 3, pos := "law.go:114", after := #[{ on := 7, ground := Ground.guard }], guard := some (7, true) }) (v := undef) rfl (by kernel_rfl) (by kernel_rfl) (by kernel_rfl) (by decide) (fun _ _ _ h => h) (Or.inr ⟨by rfl, rfl⟩) (.inl (by assumption)) ?_
                  try simp only [Act.put, List.setIfInBounds_toArray, List.set_cons_zero, List.set_cons_succ]
                  refine wpAnyG_takeU (i := 16) (oi := { dst := some 91, op := Op.indexAddr 23 (Operand.tmp 89) (Operand.tmp 90), type := 0, pos := "law.go:114", after := #[{ on := 14, ground := Ground.data }, { on := 15, ground := Ground.data }, { on := 7, ground := Ground.guard }], guard := some (7, true) }) (v := undef) rfl (by kernel_rfl) (by kernel_rfl) (by kernel_rfl) (by decide) (fun _ _ _ h => h) (Or.inr ⟨by rfl, rfl⟩) (.inl (by assumption)) ?_
                  try simp only [Act.put, List.setIfInBounds_toArray, List.set_cons_zero, List.set_cons_succ]
                  refine wpAnyG_takeU (i := 17) (oi := { dst := some 92, op := Op.load 44 (Operand.tmp 91), type := 44, pos := "law.go:114", after := #[{ on := 16, ground := Ground.data }, { on := 7, ground := Ground.guard }], guard := some (7, true) }) (v := undef) rfl (by kernel_rfl) (by kernel_rfl) (by kernel_rfl) (by decide) (fun _ _ _ h => h) (Or.inr ⟨by rfl, rfl⟩) (.inl (by assumption)) ?_
                  try simp only [Act.put, List.setIfInBounds_toArray, List.set_cons_zero, List.set_cons_succ]
                  refine wpAnyG_takeU (i := 18) (oi := { dst := some 93, op := Op.binOp BinOp.neq 44 (Operand.tmp 87) (Operand.tmp 92) 44, type := 4, pos := "law.go:114", after := #[{ on := 12, ground := Ground.data }, { on := 17, ground := Ground.data }, { on := 7, ground := Ground.guard }], guard := some (7, true) }) (v := undef) rfl (by kernel_rfl) (by kernel_rfl) (by kernel_rfl) (by decide) (fun _ _ _ h => h) (Or.inr ⟨by rfl, rfl⟩) (.inl (by assumption)) ?_
                  try simp only [Act.put, List.setIfInBounds_toArray, List.set_cons_zero, List.set_cons_succ]
                  refine wpAnyG_one (i := 19) (o := { dst := some 94, op := Op.pick (Operand.tmp 82) (Operand.tmp 93) (Operand.const (Value.bool false)), type := 4, pos := "law.go:114", after := #[{ on := 7, ground := Ground.data }, { on := 18, ground := Ground.data }], guard := none }) (by kernel_rfl) rfl (fun K hK => ?_)
                  go_simp
                  refine hK.out _ _ (.inr rfl) ?_
                  clear hK K
                  try simp only [Act.put, List.setIfInBounds_toArray, List.set_cons_zero, List.set_cons_succ]
                  refine wpAnyG_done (by kernel_rfl) ?_ _
                  have HBZ := Lib.hid (HBZ.out.trans (((Below.refl wr.heap.size wr).drew.trans (HBN.out.mono (by simp))).mono HBZ.out.size))
                  clear hHeld HBN hG hG2
                  go_wp2_with fail
                  go_roundw
                  case rel => exact ⟨j + 1, by omega, by go_num, HBZ.out⟩
                  case measure => simp [intOf]; omega
              · obtain rfl : j = c.n := by omega
                have hc6 : wr.cell? ⟨g6, 3, none⟩ = some (.slice c.p c.n c.c) := cell_of_row wr g6 3 _ _ _ ((HBZ.out.block _ (block_lt HRg6.out)).trans HRg6.out)
                go_wp2_with fail
                go_roundw
                case rel => exact ⟨k + 1, u, cu, xu, hu, by omega, by go_num, HA.out.below HBZ.out, HMU2.out⟩
                case measure => simp [intOf]; omega
      · obtain rfl : k = n := by omega
        clear hlt
        have HNC : Hid (c.n = t.cs.length) := Lib.hid HA.out.s.cs.length.1
        have HNH : Hid (h.n = t.hs.length) := Lib.hid HA.out.s.hs.length.1
        obtain ⟨sT, hsT⟩ := Tkt.told_may HMY.out
        have HTD := Lib.hid hsT
        clear hsT
        have hcb : c.n ≤ 20 := by have := HNC.out; have := HA.out.l; omega
        have hhb : h.n ≤ 100 := by have := HNH.out; have := HA.out.l; omega
        go_wp2_with fail
        generalize hw1 : wr = w1 at *
        clear hw1
        go_loopw [10] (fun i wr => ∃ j : Nat, j ≤ c.n ∧ i = .int .i64 j ∧ Below w1.heap.size w1 wr) (fun i _ => c.n - (intOf i).toNat)
        case atStart => exact ⟨0, Nat.zero_le _, rfl, Below.refl _ _⟩
        case round =>
          obtain ⟨j, hj, rfl, hbz⟩ := hrel
          have HBZ := Lib.hid hbz
          clear hbz
          have HA2 := Lib.hid (HA.out.below HBZ.out)
          have hcu := fun j => cell_of_row wr w.heap.size j _ _ _ HA2.out.r
          by_cases hlj : j < c.n
          · obtain ⟨z, hz⟩ : ∃ z, t.cs[j]? = some z := ⟨_, List.getElem?_eq_getElem (by have := HNC.out; omega)⟩
            have HZ := Lib.hid hz
            clear hz
            go_wp2_with fail
            clear hcu
            generalize hw2 : wr = w2 at *
            clear hw2
            go_loopw [11, 12] (fun en i wr => ∃ m : Nat, m ≤ h.n ∧ i = .int .i64 m ∧ en = .int .i64 (Tkt.endsI t.cs.length t.iss j (t.hs.take m)) ∧ Below w2.heap.size w2 wr) (fun _ i _ => h.n - (intOf i).toNat)
            case atStart => exact ⟨0, Nat.zero_le _, rfl, by rw [List.take_zero, Tkt.ends_nil], Below.refl _ _⟩
            case round =>
              obtain ⟨m, hm, rfl, rfl, hby⟩ := hrel
              have HBY := Lib.hid hby
              clear hby
              have HA3 := Lib.hid (HA2.out.below HBY.out)
              have hcu := fun j => cell_of_row wr w.heap.size j _ _ _ HA3.out.r
              by_cases hlm : m < h.n
              · obtain ⟨v, hv⟩ : ∃ v, t.hs[m]? = some v := ⟨_, List.getElem?_eq_getElem (by have := HNH.out; omega)⟩
                have HV := Lib.hid hv
                obtain ⟨eb, ef, hp, -, hre⟩ := HA3.out.s.hs.at hv
                have hcu10 : wr.cell? ⟨w.heap.size, 10, none⟩ = some (.slice (some ⟨eb, ef, none⟩) h.n h.c) := by rw [← hp]; exact cell_of_row wr w.heap.size 10 _ _ _ HA3.out.r
                clear hcu hp hv
                have e1 : wr.cell? ⟨eb, ef + m * 4 + 1, none⟩ = some (.int .i64 v.co) := hre 1 _ rfl
                have e3 : wr.cell? ⟨eb, ef + m * 4 + 3, none⟩ = some (.int .i64 v.to) := hre 3 _ rfl
                clear hre
                obtain ⟨hs1, hs2⟩ := Tkt.ends_step HTD.out (k := j) HV.out
                have HS1 := Lib.hid hs1
                have HS2 := Lib.hid hs2
                clear hs1 hs2
                have HLS := Lib.hid (fun W => last12_any v.to W)
                by_cases hco : v.co = (j : Int) + 1
                · obtain ⟨hA, hB⟩ := HS1.out hco
                  rw [hA]
                  have HEB := Lib.hid hB
                  clear hA hB
                  have hcob : (v.co != (j : Int) + 1) = false := by simpa using hco
                  clear hco
                  by_cases hlb : Tkt.lastB v.to = true
                  · rw [hlb] at HLS HEB
                    clear hlb
                    go_wp2_with (go_at_call 19; refine (HLS.out _).mono ?_; rintro e wn ⟨rfl, hbn⟩; have HBN := Lib.hid (HBY.out.trans (hbn.mono HBY.out.size)); clear hbn)
                    go_roundw
                    case rel => exact ⟨m + 1, by omega, by go_num, by rw [HEB.out]; rfl, HBN.out⟩
                    case measure => simp [intOf]; omega
                  · have hlf : Tkt.lastB v.to = false := by simpa using hlb
                    rw [hlf] at HLS HEB
                    clear hlb hlf
                    go_wp2_with (go_at_call 19; refine (HLS.out _).mono ?_; rintro e wn ⟨rfl, hbn⟩; have HBN := Lib.hid (HBY.out.trans (hbn.mono HBY.out.size)); clear hbn)
                    go_roundw
                    case rel => exact ⟨m + 1, by omega, by go_num, by rw [HEB.out]; rfl, HBN.out⟩
                    case measure => simp [intOf]; omega
                · have HEB := Lib.hid (HS2.out hco)
                  have hcob : (v.co != (j : Int) + 1) = true := by simpa using hco
                  clear hco
                  generalize Tkt.endsI t.cs.length t.iss j (t.hs.take m) = en at *
                  go_wp2_with fail
                  go_roundw
                  case rel => exact ⟨m + 1, by omega, by go_num, by rw [HEB.out], HBY.out⟩
                  case measure => simp [intOf]; omega
              · obtain rfl : m = h.n := by omega
                obtain ⟨cb, cf, hp, -, hrz⟩ := HA3.out.s.cs.at HZ.out
                have hcu3 : wr.cell? ⟨w.heap.size, 3, none⟩ = some (.slice (some ⟨cb, cf, none⟩) c.n c.c) := by rw [← hp]; exact cell_of_row wr w.heap.size 3 _ _ _ HA3.out.r
                have hcu10 : wr.cell? ⟨w.heap.size, 10, none⟩ = some (.slice h.p h.n h.c) := cell_of_row wr w.heap.size 10 _ _ _ HA3.out.r
                have e3 : wr.cell? ⟨cb, cf + j * 6 + 3, none⟩ = some (.int .i64 z.st) := hrz 3 _ rfl
                clear hcu hp hrz
                have hen : Tkt.endsI t.cs.length t.iss j (t.hs.take h.n) = if Tkt.lastB z.st = true then 1 else 0 := by rw [List.take_of_length_le (by have := HNH.out; omega)]; exact Tkt.ends_all HMY.out HZ.out
                rw [hen]
                clear hen
                have HLS := Lib.hid (fun W => last12_any z.st W)
                by_cases hlb : Tkt.lastB z.st = true
                · rw [hlb] at HLS
                  rw [if_pos hlb]
                  clear hlb
                  go_wp2_with (go_at_call 19; refine (HLS.out _).mono ?_; rintro e wn ⟨rfl, hbn⟩; have HBN := Lib.hid (HBZ.out.trans ((HBY.out.trans (hbn.mono HBY.out.size)).mono HBZ.out.size)); clear hbn)
                  go_roundw
                  case rel => exact ⟨j + 1, by omega, by go_num, HBN.out⟩
                  case measure => simp [intOf]; omega
                · have hlf : Tkt.lastB z.st = false := by simpa using hlb
                  rw [hlf] at HLS
                  rw [if_neg hlb]
                  clear hlb hlf
                  go_wp2_with (go_at_call 19; refine (HLS.out _).mono ?_; rintro e wn ⟨rfl, hbn⟩; have HBN := Lib.hid (HBZ.out.trans ((HBY.out.trans (hbn.mono HBY.out.size)).mono HBZ.out.size)); clear hbn)
                  go_roundw
                  case rel => exact ⟨j + 1, by omega, by go_num, HBN.out⟩
                  case measure => simp [intOf]; omega
          · have HB := Lib.hid HA2.out.b
            go_wp2_with (go_at_call 12; refine (HKN.out _).mono ?_; rintro e wk ⟨rfl, hbk⟩; have HBK := Lib.hid (HB.out.trans (hbk.mono HB.out.size)); clear hbk)
            go_ret
            exact ⟨rfl, HBK.out⟩
  · have hor : mu = true ∨ (mu = false ∧ mb = false) ∨ (mu = false ∧ mb = true ∧ 40 < n) := by cases mu <;> cases mb <;> simp_all
    clear hgo
    rcases hor with rfl | ⟨rfl, rfl⟩ | ⟨rfl, rfl, h70⟩
    all_goals
      go_enter Try.func4, Try.ntmps4
      go_wp2_with (first | (go_at_call 11; refine (HM.out _ HB.out).mono ?_; rintro e wn ⟨rfl, hbn⟩; have HB := Lib.hid (HB.out.trans (hbn.mono HB.out.size)); have HR := Lib.hid ((hbn.block _ (block_lt HR.out)).trans HR.out); obtain ⟨f1, f2⟩ := row_loT 11 HR.out rfl rfl; clear hbn) | (go_at_call 18; refine (HMA.out _ HB.out).mono ?_; rintro e wn ⟨rfl, hbn⟩; have HB := Lib.hid (HB.out.trans (hbn.mono HB.out.size)); have HR := Lib.hid ((hbn.block _ (block_lt HR.out)).trans HR.out); obtain ⟨f1, f2⟩ := row_loT 11 HR.out rfl rfl; clear hbn) | (go_at_call 12; refine (HKN.out _).mono ?_; rintro e wk ⟨rfl, hbk⟩; have HBK := Lib.hid (HB.out.trans (hbk.mono HB.out.size)); clear hbk))
      go_ret
      exact ⟨rfl, HBK.out⟩
set_option maxRecDepth 100000 in
theorem lifted (os : Os) (started : os.Started) (H : Type) (enc : TypeId × Value → H) :
    ReturnsInHanded {} Try.checked os 4 .any (Rows.ticketLastSpec.pre6 enc Try.prog Try.f4 Rows.ticketLastRow.domain false) (Rows.ticketLastSpec.post enc Try.prog Try.f4 false true false false) := by
  refine returnsInHanded_of_change (C := Try.checked) own started (by kernel_rfl) Try.func4
    (ChangeSpec.witness6 (enc := enc) (C := Try.checked) false ⟨#[], #[.agg #[.int .u64 0, .string ⟨#[]⟩, .int .i64 0, .slice none 0 0, .slice none 0 0, .int .u64 0, .int .u64 0, .int .u64 0, .int .i64 0, .int .i64 0, .slice none 0 0], .slice none 0 0], []⟩ 8 (by kernel_rfl) (by kernel_rfl) (by kernel_rfl) (by kernel_rfl)) ?_
  intro W base args ds gs before hval0 hW hcnd _
  have hval : ∀ (j : Nat) t v, Try.f4.params[j]? = some t → args[j]? = some v → Value.okWide Try.prog W .any base t v := hval0
  have hW' := hW
  obtain ⟨p, q, hA0, hV, rfl, hfz, hnd⟩ := hW
  have hA : DataW.TrodAll enc Try.prog W 0 (fun _ => true) true Try.f4.params.toList args.toList ds p := hA0
  rw [Try.params4] at hA hval
  obtain ⟨v0, vs0, d0, ds0, p0, q0, hargs, rfl, rfl, h0, r0⟩ := trodAll_cons hA
  obtain ⟨v1, vs1, d1, ds1, p1, q1, rfl, rfl, rfl, h1, r1⟩ := trodAll_cons r0
  obtain ⟨rfl, rfl, rfl⟩ := trodAll_nil r1
  obtain rfl : args = #[v0, v1] := by cases args; simp_all
  obtain ⟨t, c, x, h, rfl, hts⟩ := open_ticket (hval 0 _ v0 rfl rfl) h0
  obtain ⟨l, q', n, cap, rfl, hst, hlw⟩ := open_steps' (hval 1 _ v1 rfl rfl) h1
  clear hA0 hval0
  refine (walk t c x h l q' n cap hlw W hts hst).mono fun e W' ⟨he, hg⟩ => ?_
  subst he
  exact ⟨_, rfl, post_law laidOut rfl hW' ⟨rfl, rfl, rfl⟩ (by kernel_rfl) hg Try.underlying4 rfl⟩

theorem proved : Rows.TicketLastSaid :=
  OpenClaim.holds_of_wide 4 Try.f4 rfl rfl rfl rfl rfl rfl rfl ⟨rfl, rfl, rfl, rfl, rfl⟩ rfl rfl rfl rfl rfl (by kernel_rfl) Try.func4 (by kernel_rfl)
    (of_decide_eq_true (by kernel_rfl)) (by unfold Func.isWrapper; first | (rw [if_pos (by decide +kernel)]; kernel_rfl) | (rw [if_neg (by decide +kernel)]; exact ⟨rfl, rfl⟩))
    (fun os started H enc _ => lifted os started H enc)
#print axioms proved
end Go.Proofs.Ytmadkfahkbdibaa.ticketLast
