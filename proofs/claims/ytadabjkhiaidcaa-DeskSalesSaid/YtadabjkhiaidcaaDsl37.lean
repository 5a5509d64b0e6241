/- Contracts: desk.open, desk.kept. Contracts: which coupons are changed (closures); what desk.change works on. Plain definitions and facts on postings; no program in sight. -/
import Derived.Test.YtadabjkhiaidcaaDsl36
import Derived.Test.YtadabjkhiaidcaaDsl31
import Derived.Test.YtadabjkhiaidcaaDsl34
import Derived.Test.YtadabjkhiaidcaaDsl19
import GoSem.Core.Value
import Derived.Test.YtadabjkhiaidcaaDsl4

section
set_option linter.unusedVariables false
set_option linter.unusedSimpArgs false
namespace Go.Proofs.Ytadabjkhiaidcaa
open Go.RowKit

namespace Tkt
theorem told_from {u : Int} {n : Nat} {iss : Int} (hs : List Evt) : ∀ s, toldE u n iss hs = some s → iss ≤ s.at_ := by
  refine Wire.snocRec (M := fun hs => ∀ s, toldE u n iss hs = some s → iss ≤ s.at_) ?_ ?_ hs
  · intro s h
    injection h with h
    subst h
    exact Int.le_refl _
  · intro l x ih s h
    rw [toldE_snoc] at h
    obtain ⟨s0, h0, hk, rfl⟩ := stepE_len h
    have h1 := ih s0 h0
    have h2 : s0.at_ ≤ x.dy := by
      unfold evOk at hk
      simp at hk
      omega
    exact Int.le_trans h1 h2
theorem iss_last {t : Tk} (h : mayB t = true) : t.iss ≤ lastD t := by
  unfold mayB at h
  rw [Bool.and_eq_true] at h
  obtain ⟨s, hs, _⟩ := hist_some h.2
  rw [← told_lastD hs]
  exact told_from _ _ hs
end Tkt
/-- may something be done to a ticket on a day: an error's number -/
def Dk.openE (t : Tk) (on : Int) : Int := if (Tkt.mayB t && Tkt.dayB on) = true then (if on < Tkt.lastD t then 15 else 0) else 2
theorem Dk.roomN_append : ∀ (a b : List Cpn), Dk.roomN (a ++ b) = Dk.roomN a + Dk.roomN b
  | [], b => by simp [Dk.roomN]
  | y :: a, b => by simp only [List.cons_append, Dk.roomN, Dk.roomN_append a b]; omega
theorem Dk.roomN_snoc {l : List Cpn} {k : Nat} {y : Cpn} (h : l[k]? = some y) : Dk.roomN (l.take (k + 1)) = Dk.roomN (l.take k) + Dk.needH y.st := by
  rw [List.take_add_one, h, Dk.roomN_append]
  simp [Dk.roomN]

attribute [local go_sem ↓] Tk_execLoad Tk_execStore Cp_execLoad Cp_execStore Tx_execLoad Tx_execStore

attribute [local go_sem] Tk_load Tk_store Cp_load Cp_store Tx_load Tx_store loL_drew okL_drew there_sc World.there_drew

set_option maxRecDepth 4000 in
set_option maxHeartbeats 4000000 in
theorem dkept_any (t : Tk) (c x h : Sl) (w : World) (hl : LS Cpn.cells 6 w (.slice c.p c.n c.c) t.cs) (hh : h.n = t.hs.length) (hk : t.cs.length ≤ 1000) (hk2 : t.hs.length ≤ 1000) : Calls Try.prog 75 #[.agg #[.int .u64 t.num, .string t.loc, .int .i64 t.iss, .slice c.p c.n c.c, .slice x.p x.n x.c, .int .u64 t.prev, .int .u64 t.org, .int .u64 t.fst, .int .i64 t.vou, .int .i64 t.posts, .slice h.p h.n h.c]] w fun e w' => e = .returned (.bool (Dk.keptB t)) ∧ Below w.heap.size w w' := by
  obtain ⟨p, n, cap⟩ := c
  obtain ⟨ph, nh, ch⟩ := h
  simp only at *
  obtain ⟨l, hl0⟩ : ∃ l, t.cs = l := ⟨_, rfl⟩
  obtain ⟨R, hR⟩ : ∃ R, Dk.keptB t = R := ⟨_, rfl⟩
  have HRV : Hid (decide ((nh : Int) + Dk.roomN l ≤ 60) = R) := Lib.hid (by rw [← hR, ← hl0, hh]; rfl)
  rw [hR]
  rw [hl0] at hl hk
  clear hR hl0
  have HNH : Hid (nh ≤ 1000) := Lib.hid (by omega)
  have hnh : nh ≤ 1000 := HNH.out
  have HK : Hid (n ≤ 1000) := Lib.hid (by have := hl.length.1; omega)
  clear hk hh hk2
  have HLS := Lib.hid hl
  have HNL := Lib.hid hl.length.1
  have hn : n ≤ 9223372036854775807 := by have h1 := hl.length; unfold maxLen at h1; omega
  clear hl
  have HB0 := Lib.hid ((Below.refl w.heap.size w).alloc (Nat.le_refl _) (.cells #[.int .u64 t.num, .string t.loc, .int .i64 t.iss, .slice p n cap, .slice x.p x.n x.c, .int .u64 t.prev, .int .u64 t.org, .int .u64 t.fst, .int .i64 t.vou, .int .i64 t.posts, .slice ph nh ch] 45 (0, 0)))
  have HR0 := Lib.hid (new_rowW w (.cells #[.int .u64 t.num, .string t.loc, .int .i64 t.iss, .slice p n cap, .slice x.p x.n x.c, .int .u64 t.prev, .int .u64 t.org, .int .u64 t.fst, .int .i64 t.vou, .int .i64 t.posts, .slice ph nh ch] 45 (0, 0)) _ rfl)
  have hcs := fun j => cell_of_row _ w.heap.size j _ _ _ HR0.out
  go_enter Try.func75, Try.ntmps75
  go_wp2_with fail
  clear hcs
  go_loopw [3, 12] (fun sm i wr => ∃ k : Nat, k ≤ n ∧ i = .int .i64 k ∧ sm = .int .i64 ((nh : Int) + Dk.roomN (l.take k)) ∧ Below w.heap.size w wr) (fun _ i _ => n - (intOf i).toNat)
  case atStart => exact ⟨0, Nat.zero_le _, rfl, by simp [Dk.roomN], HB0.out⟩
  case round =>
    obtain ⟨k, hk, rfl, rfl, hb⟩ := hrel
    have HB := Lib.hid hb
    clear hb HB0 HR0
    by_cases hlt : k < n
    · generalize hS : Dk.roomN (l.take k) = S at *
      obtain ⟨y, hy⟩ : ∃ y, l[k]? = some y := ⟨_, List.getElem?_eq_getElem (by have := HNL.out; omega)⟩
      have HY := Lib.hid hy
      obtain ⟨eb, ef, hp, -, hr⟩ := (HLS.out.below HB.out).at hy
      subst hp
      obtain ⟨g1, g2⟩ := loL_of hr (Cpn.cells_length y)
      have g3 : y.cells = [.int .i64 y.fl, .int .i64 y.dy, .int .i64 y.va, .int .i64 y.st, .int .i64 y.ho, .int .u64 y.nx] := rfl
      rw [g3] at g1
      clear g3 hr hy
      have tc := there_newT (w := wr) (zs := [.int .i64 0, .int .i64 0, .int .i64 0, .int .i64 0, .int .i64 0, .int .u64 0]) (e := 37) (n := 6) rfl
      have c6n : ([.int .i64 y.fl, .int .i64 y.dy, .int .i64 y.va, .int .i64 y.st, .int .i64 y.ho, .int .u64 y.nx] : List Value).length = 6 := rfl
      have c6c : ([.int .i64 y.fl, .int .i64 y.dy, .int .i64 y.va, .int .i64 y.st, .int .i64 y.ho, .int .u64 y.nx] : List Value).all (·.oneCell') = true := rfl
      go_upto_region 5 with fail
      have HP := Lib.hid (putRec (W := wr) (e := 37) (zs := [.int .i64 0, .int .i64 0, .int .i64 0, .int .i64 0, .int .i64 0, .int .u64 0]) (cs := [.int .i64 y.fl, .int .i64 y.dy, .int .i64 y.va, .int .i64 y.st, .int .i64 y.ho, .int .u64 y.nx]) rfl)
      have HB := Lib.hid (HB.out.trans (HP.out.2.mono HB.out.size))
      have HRC := Lib.hid HP.out.1
      clear HP tc c6n c6c g1 g2
      generalize (wr.alloc (.cells #[.int .i64 0, .int .i64 0, .int .i64 0, .int .i64 0, .int .i64 0, .int .u64 0] 37 (0, 0))).setCells wr.heap.size 0 [.int .i64 y.fl, .int .i64 y.dy, .int .i64 y.va, .int .i64 y.st, .int .i64 y.ho, .int .u64 y.nx] = w4 at *
      generalize wr.heap.size = gc at *
      have kc := fun j => cell_of_row w4 gc j _ _ _ HRC.out
      have hbs := Dk.roomN_pos (l.take k)
      rw [hS, List.length_take] at hbs
      have hS0 : 0 ≤ S := by omega
      have hS1 : S ≤ 1000000 := by have := HK.out; omega
      have HSE := Lib.hid hS
      have HN : Hid (Dk.needH y.st = if y.st = 2 ∨ y.st = 9 then 2 else if y.st = 1 ∨ y.st = 3 ∨ y.st = 8 then 1 else 0) := Lib.hid rfl
      have HSN := Lib.hid (Dk.roomN_snoc HY.out)
      rw [HSE.out] at HSN
      clear hbs hS
      generalize y.st = s at *
      have HQ : Hid (((s == 2) = true ∧ s = 2) ∨ (((s == 2) = false ∧ (s == 9) = true) ∧ s = 9) ∨ (((s == 2) = false ∧ (s == 9) = false ∧ (s == 1) = true) ∧ s = 1) ∨ (((s == 2) = false ∧ (s == 9) = false ∧ (s == 1) = false ∧ (s == 3) = true) ∧ s = 3) ∨ (((s == 2) = false ∧ (s == 9) = false ∧ (s == 1) = false ∧ (s == 3) = false ∧ (s == 8) = true) ∧ s = 8) ∨ (((s == 2) = false ∧ (s == 9) = false ∧ (s == 1) = false ∧ (s == 3) = false ∧ (s == 8) = false) ∧ (s ≠ 2 ∧ s ≠ 9 ∧ s ≠ 1 ∧ s ≠ 3 ∧ s ≠ 8))) := Lib.hid (by
        simp only [beq_iff_eq, beq_eq_false_iff_ne]
        omega)
      rcases HQ.out with ⟨q1, h1⟩ | ⟨⟨q1, q2⟩, h1⟩ | ⟨⟨q1, q2, q3⟩, h1⟩ | ⟨⟨q1, q2, q3, q4⟩, h1⟩ | ⟨⟨q1, q2, q3, q4, q5⟩, h1⟩ | ⟨⟨q1, q2, q3, q4, q5⟩, h1⟩
      all_goals
        have H1 := Lib.hid h1
        have HV : Hid (Dk.needH s = 2 ∧ (s = 2 ∨ s = 9) ∨ Dk.needH s = 1 ∧ (s = 1 ∨ s = 3 ∨ s = 8) ∨ Dk.needH s = 0 ∧ (s ≠ 2 ∧ s ≠ 9 ∧ s ≠ 1 ∧ s ≠ 3 ∧ s ≠ 8)) := Lib.hid (by have := HN.out; split at this <;> (try split at this) <;> omega)
        clear h1
        go_wp2
        go_roundw
        case rel => exact ⟨k + 1, by omega, by go_num, by rw [HSN.out]; congr 1; have := HV.out; have := H1.out; omega, HB.out⟩
        case measure => simp [intOf]; omega
    · obtain rfl : k = n := by omega
      have HGE : Hid (decide ((nh : Int) + Dk.roomN (l.take k) ≤ 60) = R) := Lib.hid (by rw [← HRV.out, List.take_of_length_le (by have := HNL.out; omega)])
      generalize Dk.roomN (l.take k) = S at *
      go_wp2
      go_ret
      exact ⟨ret_bool HGE.out, HB.out⟩
set_option maxRecDepth 4000 in
set_option maxHeartbeats 4000000 in
theorem dopen_any (t : Tk) (c x h : Sl) (on : Int) (w : World) (ts : TS w t c x h) : Calls Try.prog 41 #[.agg #[.int .u64 t.num, .string t.loc, .int .i64 t.iss, .slice c.p c.n c.c, .slice x.p x.n x.c, .int .u64 t.prev, .int .u64 t.org, .int .u64 t.fst, .int .i64 t.vou, .int .i64 t.posts, .slice h.p h.n h.c], .int .i64 on] w fun e w' => e = .returned (.int .i64 (Dk.openE t on)) ∧ Below w.heap.size w w' := by
  obtain ⟨ph, nh, ch⟩ := h
  obtain ⟨p, n, cap⟩ := c
  simp only at *
  have HTS := Lib.hid ts
  have HB := Lib.hid ((Below.refl w.heap.size w).alloc (Nat.le_refl _) (.cells #[.int .u64 t.num, .string t.loc, .int .i64 t.iss, .slice p n cap, .slice x.p x.n x.c, .int .u64 t.prev, .int .u64 t.org, .int .u64 t.fst, .int .i64 t.vou, .int .i64 t.posts, .slice ph nh ch] 45 (0, 0)))
  have HR := Lib.hid (new_rowW w (.cells #[.int .u64 t.num, .string t.loc, .int .i64 t.iss, .slice p n cap, .slice x.p x.n x.c, .int .u64 t.prev, .int .u64 t.org, .int .u64 t.fst, .int .i64 t.vou, .int .i64 t.posts, .slice ph nh ch] 45 (0, 0)) _ rfl)
  have HM := Lib.hid (fun W h => tmay_any t ⟨p, n, cap⟩ x ⟨ph, nh, ch⟩ W h)
  have HD := Lib.hid (fun W => dwithin_any on W)
  have HNH := Lib.hid ts.hs.length
  have HIL := Lib.hid (Tkt.iss_last (t := t))
  obtain ⟨R, hR⟩ : ∃ R, Dk.openE t on = R := ⟨_, rfl⟩
  rw [hR]
  have HRV := Lib.hid hR
  clear hR ts
  obtain ⟨q1, hq1⟩ : ∃ q, Tkt.mayB t = q := ⟨_, rfl⟩
  obtain ⟨q2, hq2⟩ : ∃ q, Tkt.dayB on = q := ⟨_, rfl⟩
  rw [hq1] at HM HIL
  rw [hq2] at HD
  have HE : Hid (R = if (q1 && q2) = true then (if on < Tkt.lastD t then 15 else 0) else 2) := Lib.hid (by rw [← HRV.out]; unfold Dk.openE; rw [hq1, hq2])
  clear hq1 hq2 HRV
  have hcs := fun j => cell_of_row _ w.heap.size j _ _ _ HR.out
  obtain ⟨f1, f2⟩ := row_loT 11 HR.out rfl rfl
  cases q1
  · have HV : Hid (R = 2) := Lib.hid HE.out
    go_enter Try.func41, Try.ntmps41
    go_wp2_with fail
    refine (HM.out _ (HTS.out.below HB.out)).mono ?_
    rintro e w1 ⟨rfl, hb1⟩
    have HB1 := Lib.hid (HB.out.trans (hb1.mono (by simp)))
    clear hcs f1 f2 hb1
    go_wp2
    go_ret
    exact ⟨ret_int HV.out.symm, HB1.out⟩
  · cases q2
    · have HV : Hid (R = 2) := Lib.hid HE.out
      go_enter Try.func41, Try.ntmps41
      go_wp2_with fail
      refine (HM.out _ (HTS.out.below HB.out)).mono ?_
      rintro e w1 ⟨rfl, hb1⟩
      have HB1 := Lib.hid (HB.out.trans (hb1.mono (by simp)))
      clear hcs f1 f2 hb1
      go_wp2_with (go_at_call 25; refine (HD.out _).mono ?_; rintro e wn ⟨rfl, rfl⟩)
      go_ret
      exact ⟨ret_int HV.out.symm, HB1.out⟩
    · have HV : Hid (R = if on < Tkt.lastD t then 15 else 0) := Lib.hid HE.out
      go_enter Try.func41, Try.ntmps41
      go_wp2_with fail
      refine (HM.out _ (HTS.out.below HB.out)).mono ?_
      rintro e w1 ⟨rfl, hb1⟩
      have HB1 := Lib.hid (HB.out.trans (hb1.mono (by simp)))
      have HR1 := Lib.hid ((hb1.block _ (by simp)).trans HR.out)
      have HT1 := Lib.hid ((HTS.out.below HB.out).below hb1)
      clear hcs f1 f2 hb1
      have hcs := fun j => cell_of_row _ w.heap.size j _ _ _ HR1.out
      by_cases h1 : on < t.iss
      · have HW : Hid (R = 15) := Lib.hid (by rw [HV.out, if_pos (by have := HIL.out (by trivial); omega)])
        go_wp2_with (go_at_call 25; refine (HD.out _).mono ?_; rintro e wn ⟨rfl, rfl⟩)
        go_ret
        exact ⟨ret_int HW.out.symm, HB1.out⟩
      · have hm2 := HNH.out.2.1
        have hm3 := HNH.out.2.2
        unfold maxLen at hm3
        try simp only at hm2 hm3
        by_cases hh : nh = 0
        · subst hh
          have HW : Hid (R = 0) := Lib.hid (by rw [HV.out, if_neg]; rw [Tkt.lastD, List.length_eq_zero_iff.1 (HNH.out.1.symm)]; exact h1)
          go_wp2_with (go_at_call 25; refine (HD.out _).mono ?_; rintro e wn ⟨rfl, rfl⟩)
          go_ret
          exact ⟨ret_int HW.out.symm, HB1.out⟩
        · obtain ⟨m, rfl⟩ : ∃ m, nh = m + 1 := ⟨nh - 1, by omega⟩
          have hml : t.hs.length = m + 1 := HNH.out.1.symm
          obtain ⟨z, hz⟩ : ∃ z, t.hs[m]? = some z := ⟨_, List.getElem?_eq_getElem (by omega)⟩
          have hl : z.dy = Tkt.lastD t := by rw [Tkt.lastD, List.getLast?_eq_getElem?, hml, Nat.add_sub_cancel, hz]
          rw [← hl] at HV
          obtain ⟨bb, o, hp, hbl, hr⟩ := (HT1.out.hs).at hz
          subst hp
          have c0 : w1.cell? ⟨bb, o + m * 4, none⟩ = some (.int .i64 z.dy) := hr 0 _ rfl
          have hwr : IntKind.i64.wrap (((m + 1 : Nat) : Int) - 1) = m := by rw [IntKind.wrap_i64]; omega
          have hwr2 : IntKind.i64.wrap ((m : Int) + 1 - 1) = m := by rw [IntKind.wrap_i64]; omega
          have hnz : (0 : Int) < (m : Int) + 1 := by omega
          clear hr hz hl hml hh
          by_cases h2 : on < z.dy
          · have HW : Hid (R = 15) := Lib.hid (by rw [HV.out, if_pos h2])
            go_wp2_with (go_at_call 25; refine (HD.out _).mono ?_; rintro e wn ⟨rfl, rfl⟩)
            go_ret
            exact ⟨ret_int HW.out.symm, HB1.out⟩
          · have HW : Hid (R = 0) := Lib.hid (by rw [HV.out, if_neg h2])
            go_wp2_with (go_at_call 25; refine (HD.out _).mono ?_; rintro e wn ⟨rfl, rfl⟩)
            go_ret
            exact ⟨ret_int HW.out.symm, HB1.out⟩
end Go.Proofs.Ytadabjkhiaidcaa
end

section
set_option linter.unusedVariables false
set_option linter.unusedSimpArgs false
namespace Go.Proofs.Ytadabjkhiaidcaa
open Go.RowKit

attribute [local go_sem ↓] Tk_execLoad Tk_execStore Cp_execLoad Cp_execStore

attribute [local go_sem] Tk_load Tk_store Cp_load Cp_store loL_drew okL_drew there_sc World.there_drew

/-- a ticket in a box that is written: alone of the blocks that were there -/
structure BAt (W1 W : World) (g : Nat) (t : Tk) (c x h : Sl) : Prop where
  b : Only g W1 W
  r : W.heap[g]? = some (.cells #[.int .u64 t.num, .string t.loc, .int .i64 t.iss, .slice c.p c.n c.c, .slice x.p x.n x.c, .int .u64 t.prev, .int .u64 t.org, .int .u64 t.fst, .int .i64 t.vou, .int .i64 t.posts, .slice h.p h.n h.c] 45 (0, 0))
  s : TS W t c x h
  o : Off g t c x h
  l : t.cs.length ≤ 1000 ∧ t.hs.length ≤ 1000
theorem BAt.below {W1 W W' : World} {g : Nat} {t : Tk} {c x h : Sl} (a : BAt W1 W g t c x h) (hb : Below W.heap.size W W') : BAt W1 W' g t c x h :=
  ⟨a.b.trans (Only.of_below hb), (hb.block _ (block_lt a.r)).trans a.r, a.s.below hb, a.o, a.l⟩
theorem BAt.turn {W1 W : World} {g : Nat} {t t' : Tk} {c x h c' x' h' : Sl} {vs : List Value} (a : BAt W1 W g t c x h) (hv : vs = [.int .u64 t'.num, .string t'.loc, .int .i64 t'.iss, .slice c'.p c'.n c'.c, .slice x'.p x'.n x'.c, .int .u64 t'.prev, .int .u64 t'.org, .int .u64 t'.fst, .int .i64 t'.vou, .int .i64 t'.posts, .slice h'.p h'.n h'.c]) (s : TS W t' c' x' h') (o : Off g t' c' x' h') (l : t'.cs.length ≤ 1000 ∧ t'.hs.length ≤ 1000) : BAt W1 (W.setCells g 0 vs) g t' c' x' h' := by
  subst hv
  exact ⟨a.b.setCells 0 _, setCells_rowT (zs := [.int .u64 t.num, .string t.loc, .int .i64 t.iss, .slice c.p c.n c.c, .slice x.p x.n x.c, .int .u64 t.prev, .int .u64 t.org, .int .u64 t.fst, .int .i64 t.vou, .int .i64 t.posts, .slice h.p h.n h.c]) a.r rfl, s.only o ((Only.refl g W).setCells 0 _), o, l⟩
/-- the lists of a ticket: those of an older one, or made since a block -/
def Fresh (B : Nat) (t : Tk) (c x h : Sl) (W : World) (o : Tk) (c' x' h' : Sl) : Prop :=
  (c' = c ∧ x' = x ∧ h' = h ∧ o.cs = t.cs ∧ o.ts = t.ts ∧ o.hs = t.hs) ∨ (W.ownsRow B 37 6 (.slice c'.p c'.n c'.c) o.cs.length (encL Cpn.cells o.cs) ∧ W.ownsRow B 56 2 (.slice x'.p x'.n x'.c) o.ts.length (encL Txx.cells o.ts) ∧ W.ownsRow B 96 4 (.slice h'.p h'.n h'.c) o.hs.length (encL Evt.cells o.hs))
theorem Fresh.refl (B : Nat) (t : Tk) (c x h : Sl) (W : World) : Fresh B t c x h W t c x h := .inl ⟨rfl, rfl, rfl, rfl, rfl, rfl⟩
theorem Fresh.zero (B : Nat) (t : Tk) (c x h : Sl) (W : World) : Fresh B t c x h W Tkt.zTk ⟨none, 0, 0⟩ ⟨none, 0, 0⟩ ⟨none, 0, 0⟩ := .inr ⟨World.ownsRow_nil _ _ _ _, World.ownsRow_nil _ _ _ _, World.ownsRow_nil _ _ _ _⟩
theorem Fresh.below {B : Nat} {t o : Tk} {c x h c' x' h' : Sl} {W W' : World} (f : Fresh B t c x h W o c' x' h') (hb : Below W.heap.size W W') : Fresh B t c x h W' o c' x' h' := by
  rcases f with f | ⟨f1, f2, f3⟩
  · exact .inl f
  · exact .inr ⟨recs_below f1 hb, recs_below f2 hb, recs_below f3 hb⟩
theorem Fresh.box {B g : Nat} {t o : Tk} {c x h c' x' h' : Sl} {W W' : World} {cs : Array Value} {fr : Nat × Nat} (f : Fresh B t c x h W o c' x' h') (hr : W.heap[g]? = some (.cells cs 45 fr)) (hw : Only g W W') : Fresh B t c x h W' o c' x' h' := by
  rcases f with f | ⟨f1, f2, f3⟩
  · exact .inl f
  · exact .inr ⟨recs_only f1 (own_neT f1 hr (by decide)) hw, recs_only f2 (own_neT f2 hr (by decide)) hw, recs_only f3 (own_neT f3 hr (by decide)) hw⟩
/-- they lie off a block that is a ticket's, or older -/
theorem Fresh.off {B g : Nat} {t o : Tk} {c x h c' x' h' : Sl} {W : World} (f : Fresh B t c x h W o c' x' h') (ho : Off g t c x h) (hg : g < B ∨ ∃ cs fr, W.heap[g]? = some (.cells cs 45 fr)) : Off g o c' x' h' := by
  rcases f with ⟨rfl, rfl, rfl, e1, e2, e3⟩ | ⟨f1, f2, f3⟩
  · exact ⟨by rw [e1]; exact ho.c, by rw [e2]; exact ho.x, by rw [e3]; exact ho.h⟩
  · rcases hg with hg | ⟨cs, fr, hr⟩
    · exact Off.of_own f1 f2 f3 hg
    · exact ⟨fun _ => own_neT f1 hr (by decide), fun _ => own_neT f2 hr (by decide), fun _ => own_neT f3 hr (by decide)⟩
theorem there_rowD {w : World} {g : Nat} {cs : Array Value} {e : TypeId} (h : w.heap[g]? = some (.cells cs e (0, 0))) (n : Nat) (hn : cs.size = n) : w.there g 0 n := fun j hj => by
  rw [cell_of_row w g _ cs _ _ h, frozen_of_row w g _ cs _ h]
  exact ⟨by rw [Array.getElem?_eq_getElem (by omega)]; rfl, rfl⟩
theorem zTk_wfD : Tkt.zTk.wf := ⟨⟨by decide, by decide⟩, by decide, ⟨by decide, by decide⟩, by simp [Tkt.zTk], by simp [Tkt.zTk], ⟨by decide, by decide⟩, ⟨by decide, by decide⟩, ⟨by decide, by decide⟩, ⟨by decide, by decide⟩, ⟨by decide, by decide⟩, by simp [Tkt.zTk]⟩
theorem Off.zero (g : Nat) : Off g Tkt.zTk ⟨none, 0, 0⟩ ⟨none, 0, 0⟩ ⟨none, 0, 0⟩ := ⟨fun h => absurd rfl h, fun h => absurd rfl h, fun h => absurd rfl h⟩
theorem TS.zero (w : World) : TS w Tkt.zTk ⟨none, 0, 0⟩ ⟨none, 0, 0⟩ ⟨none, 0, 0⟩ := TS.of_own (base := w.heap.size) zTk_wfD (World.ownsRow_nil _ _ _ _) (World.ownsRow_nil _ _ _ _) (World.ownsRow_nil _ _ _ _)
/-- a change that was done -/
theorem Dk.chg_ok {t t' : Tk} {k : Nat} {on tq wi : Int} (h0 : Tkt.errC t ((k : Int) + 1) on tq wi = 0) (ht : Tkt.chgT t ((k : Int) + 1) on tq wi = t') (hw : t.wf) (ho : I64 on) (hwi : U64 wi) : t' = Tkt.chg t ((k : Int) + 1) on tq wi ∧ t'.wf ∧ t'.cs.length ≤ 1000 ∧ t'.hs.length ≤ 1000 := by
  obtain ⟨k2, y, hk, d⟩ := Tkt.done_of h0
  obtain rfl : k = k2 := by omega
  have e : t' = Tkt.chg t ((k : Int) + 1) on tq wi := by rw [← ht]; unfold Tkt.chgT; rw [if_pos h0]
  have h1 := Tkt.wf_chg d hw ho hwi
  have h2 := Tkt.mayB_lens (Tkt.may_chg d)
  rw [← e] at h1 h2
  exact ⟨e, h1, by omega, by omega⟩
theorem Dk.chgN_cons (sel : Int → Cpn → Bool) (on tq wi : Int) (y : Cpn) (r : List Cpn) (k : Nat) (o : Tk) : Dk.chgN sel on tq wi (y :: r) k o = if sel ((k : Int) + 1) y = true then (if Tkt.errC o ((k : Int) + 1) on tq wi = 0 then Dk.chgN sel on tq wi r (k + 1) (Tkt.chg o ((k : Int) + 1) on tq wi) else (Tkt.zTk, Tkt.errC o ((k : Int) + 1) on tq wi)) else Dk.chgN sel on tq wi r (k + 1) o := rfl
def Dk.selOne (co : Int) (i : Int) (_ : Cpn) : Bool := i == co
def Dk.selAll (_ : Int) (_ : Cpn) : Bool := true
def Dk.selBack (_ : Int) (c : Cpn) : Bool := c.st == 1 || c.st == 8
def Dk.selOpen (_ : Int) (c : Cpn) : Bool := c.st == 1

theorem one1_any (i co : Int) (y : Cpn) (gq : Nat) (w : World) (hc : w.cell? ⟨gq, 0, none⟩ = some (.int .i64 co)) : Calls Try.prog 76 #[.int .i64 i, .agg #[.int .i64 y.fl, .int .i64 y.dy, .int .i64 y.va, .int .i64 y.st, .int .i64 y.ho, .int .u64 y.nx], .pointer (some ⟨gq, 0, none⟩)] w fun e w' => e = .returned (.bool (Dk.selOne co i y)) ∧ Below w.heap.size w w' := by
  have hga := cell_blockW hc
  simp only at hga
  have hb := (Below.refl w.heap.size w).alloc (Nat.le_refl _) (.cells #[.int .i64 y.fl, .int .i64 y.dy, .int .i64 y.va, .int .i64 y.st, .int .i64 y.ho, .int .u64 y.nx] 37)
  have h2 := (hb.cell (p := ⟨gq, 0, none⟩) hga).trans hc
  have HB := Lib.hid hb
  clear hb hc hga
  go_enter Try.func76, Try.ntmps76
  go_wp2
  go_ret
  exact ⟨rfl, HB.out⟩
theorem all2_any (i : Int) (y : Cpn) (w : World) : Calls Try.prog 49 #[.int .i64 i, .agg #[.int .i64 y.fl, .int .i64 y.dy, .int .i64 y.va, .int .i64 y.st, .int .i64 y.ho, .int .u64 y.nx]] w fun e w' => e = .returned (.bool (Dk.selAll i y)) ∧ Below w.heap.size w w' := by
  have HB := Lib.hid ((Below.refl w.heap.size w).alloc (Nat.le_refl _) (.cells #[.int .i64 y.fl, .int .i64 y.dy, .int .i64 y.va, .int .i64 y.st, .int .i64 y.ho, .int .u64 y.nx] 37))
  go_enter Try.func49, Try.ntmps49
  go_wp2
  go_ret
  exact ⟨rfl, HB.out⟩
theorem open2_any (i : Int) (y : Cpn) (w : World) : Calls Try.prog 58 #[.int .i64 i, .agg #[.int .i64 y.fl, .int .i64 y.dy, .int .i64 y.va, .int .i64 y.st, .int .i64 y.ho, .int .u64 y.nx]] w fun e w' => e = .returned (.bool (Dk.selOpen i y)) ∧ Below w.heap.size w w' := by
  have HB := Lib.hid ((Below.refl w.heap.size w).alloc (Nat.le_refl _) (.cells #[.int .i64 y.fl, .int .i64 y.dy, .int .i64 y.va, .int .i64 y.st, .int .i64 y.ho, .int .u64 y.nx] 37))
  have hcs := fun j => cell_of_row _ w.heap.size j _ _ _ (new_rowW w (.cells #[.int .i64 y.fl, .int .i64 y.dy, .int .i64 y.va, .int .i64 y.st, .int .i64 y.ho, .int .u64 y.nx] 37 (0, 0)) _ rfl)
  go_enter Try.func58, Try.ntmps58
  go_wp2
  go_ret
  exact ⟨rfl, HB.out⟩
theorem back1_any (i : Int) (y : Cpn) (w : World) : Calls Try.prog 52 #[.int .i64 i, .agg #[.int .i64 y.fl, .int .i64 y.dy, .int .i64 y.va, .int .i64 y.st, .int .i64 y.ho, .int .u64 y.nx]] w fun e w' => e = .returned (.bool (Dk.selBack i y)) ∧ Below w.heap.size w w' := by
  have HB := Lib.hid ((Below.refl w.heap.size w).alloc (Nat.le_refl _) (.cells #[.int .i64 y.fl, .int .i64 y.dy, .int .i64 y.va, .int .i64 y.st, .int .i64 y.ho, .int .u64 y.nx] 37))
  have hcs := fun j => cell_of_row _ w.heap.size j _ _ _ (new_rowW w (.cells #[.int .i64 y.fl, .int .i64 y.dy, .int .i64 y.va, .int .i64 y.st, .int .i64 y.ho, .int .u64 y.nx] 37 (0, 0)) _ rfl)
  unfold Dk.selBack
  cases q1 : (y.st == 1)
  · go_enter Try.func52, Try.ntmps52
    go_wp2
    go_ret
    exact ⟨ret_bool (by simp), HB.out⟩
  · go_enter Try.func52, Try.ntmps52
    go_wp2
    go_ret
    exact ⟨ret_bool (by simp), HB.out⟩
end Go.Proofs.Ytadabjkhiaidcaa
end

section
namespace Go.Proofs.Ytadabjkhiaidcaa.Post

/-- six amounts as cells -/
def amRow (am : List Int) : Array Value := (am.map (Value.int .i64)).toArray
theorem amRow_size (am : List Int) : (amRow am).size = am.length := by simp [amRow]
theorem amRow_at {am : List Int} {j : Nat} (h : j < am.length) : (amRow am)[j]? = some (.int .i64 (am.getD j 0)) := by
  unfold amRow; simp [h]
def outB (bd : Int) (n : Int) : Bool := decide (n < -bd) || decide (bd < n)
def idxOut (bd : Int) : List Int → Int → Int
  | [], _ => -1
  | z :: zs, i => if outB bd z = true then i else idxOut bd zs (i + 1)
def fit (c : UInt8) (n : Int) : Bool :=
  if c.toNat = 43 then decide (0 ≤ n) else if c.toNat = 45 then decide (n ≤ 0) else if c.toNat = 48 then decide (n = 0) else true
/-- what a kind's six amounts are like -/
def signs (k : Int) : List UInt8 :=
  if k = 1 then [43, 45, 48, 45, 48, 48] else if k = 2 then [45, 43, 48, 43, 48, 48] else if k = 3 then [48, 43, 45, 48, 48, 48]
  else if k = 4 then [45, 43, 48, 43, 45, 48] else if k = 5 then [43, 42, 48, 42, 45, 45] else []
def name (k : Int) : List UInt8 :=
  if k = 1 then [105, 115, 115, 117, 101] else if k = 2 then [118, 111, 105, 100] else if k = 3 then [102, 108, 121]
  else if k = 4 then [114, 101, 102, 117, 110, 100] else if k = 5 then [101, 120, 99, 104, 97, 110, 103, 101] else []
def fitAll : List UInt8 → List Int → Bool
  | c :: cs, n :: ns => fit c n && fitAll cs ns
  | _, _ => true
def sum : List Int → Int
  | [] => 0
  | n :: ns => n + sum ns
def cols (k : Int) (am : List Int) : Bool :=
  !(am.any (outB 1125899906842624)) && fitAll (signs k) am && decide (sum am = 0) && !(decide (k = 5) && decide (am.getD 0 0 ≠ 0) && decide (am.getD 5 0 ≠ 0))
def may (d t s k : Int) (am : List Int) : Bool :=
  decide (1 ≤ k) && decide (k ≤ 5) && cols k am && decide (0 ≤ d) && decide (d ≤ 1000000) && decide (1 ≤ s) && decide (s ≤ 200) && decide (Num.check t = 0)

theorem idxOut_any (bd : Int) (zs : List Int) (i : Int) (hi : 0 ≤ i) : decide (0 ≤ idxOut bd zs i) = zs.any (outB bd) := by
  induction zs generalizing i with
  | nil => simp [idxOut]
  | cons z zs ih =>
    unfold idxOut
    by_cases h : outB bd z = true
    · rw [if_pos h]; simp [h, hi]
    · rw [if_neg h, ih (i + 1) (by omega)]; simp [h]
theorem idxOut_miss {bd z : Int} (h : outB bd z = false) (zs : List Int) (i : Int) : idxOut bd (z :: zs) i = idxOut bd zs (i + 1) := by
  show (if outB bd z = true then i else idxOut bd zs (i + 1)) = _
  rw [h]; rfl
theorem idxOut_hit {bd z : Int} (h : outB bd z = true) (zs : List Int) (i : Int) : idxOut bd (z :: zs) i = i := by
  show (if outB bd z = true then i else idxOut bd zs (i + 1)) = _
  rw [h]; rfl
theorem fitAll_step {c : UInt8} {n : Int} {b : Bool} (h : fit c n = b) (cs : List UInt8) (ns : List Int) : fitAll (c :: cs) (n :: ns) = (b && fitAll cs ns) := by
  show (fit c n && fitAll cs ns) = _
  rw [h]
theorem sum_cons (n : Int) (ns : List Int) : sum (n :: ns) = n + sum ns := rfl
theorem any_in {bd : Int} {l : List Int} (h : l.any (outB bd) = false) {z : Int} (hz : z ∈ l) : -bd ≤ z ∧ z ≤ bd := by
  have := List.any_eq_false.1 h z hz
  unfold outB at this
  simp at this
  omega
/-- the reference's tables: may a kind's amounts be below 0, above 0 -/
def belowRow (k : Int) : List Bool :=
  if k = 1 then [false, true, false, true, false, false] else if k = 2 then [true, false, false, false, false, false] else if k = 3 then [false, false, true, false, false, false]
  else if k = 4 then [true, false, false, false, true, false] else [false, true, false, true, true, true]
def aboveRow (k : Int) : List Bool :=
  if k = 1 then [true, false, false, false, false, false] else if k = 2 then [false, true, false, true, false, false] else if k = 3 then [false, true, false, false, false, false]
  else if k = 4 then [false, true, false, true, false, false] else [true, true, false, true, false, false]
theorem fit_tables {k : Int} (h1 : 1 ≤ k) (h5 : k ≤ 5) (i : Nat) (hi : i < 6) (n : Int) :
    fit ((signs k).getD i 0) n = !((decide (n < 0) && !(belowRow k).getD i false) || (decide (0 < n) && !(aboveRow k).getD i false)) := by
  rcases (by omega : k = 1 ∨ k = 2 ∨ k = 3 ∨ k = 4 ∨ k = 5) with rfl | rfl | rfl | rfl | rfl <;>
    rcases (by omega : i = 0 ∨ i = 1 ∨ i = 2 ∨ i = 3 ∨ i = 4 ∨ i = 5) with rfl | rfl | rfl | rfl | rfl | rfl <;>
    (rw [Bool.eq_iff_iff]; simp [fit, signs, belowRow, aboveRow]; try omega)
theorem any_step {bd z : Int} {b : Bool} (h : outB bd z = b) (ns : List Int) : (z :: ns).any (outB bd) = (b || ns.any (outB bd)) := by rw [List.any_cons, h]
theorem signs_len {k : Int} (h1 : 1 ≤ k) (h5 : k ≤ 5) : (signs k).length = 6 := by
  rcases (by omega : k = 1 ∨ k = 2 ∨ k = 3 ∨ k = 4 ∨ k = 5) with rfl | rfl | rfl | rfl | rfl <;> rfl
theorem signs_none {k : Int} (h : k < 1 ∨ 5 < k) : signs k = [] := by
  unfold signs
  rw [if_neg (by omega), if_neg (by omega), if_neg (by omega), if_neg (by omega), if_neg (by omega)]
theorem signs_ascii (k : Int) : ∀ c ∈ signs k, c.toNat < 128 := by
  unfold signs
  intro c hc
  repeat' split at hc
  all_goals (simp at hc; try (rcases hc with h | h | h | h | h | h <;> subst h <;> decide))
  all_goals (try (rcases hc with h | h | h | h | h <;> subst h <;> decide))
  all_goals (try (rcases hc with h | h | h | h <;> subst h <;> decide))
  all_goals (try (rcases hc with h | h | h <;> subst h <;> decide))
theorem fit_plus {c : UInt8} (n : Int) (h : (c.toNat : Int) = 43) : fit c n = decide (0 ≤ n) := by unfold fit; rw [if_pos (by omega)]
theorem fit_minus {c : UInt8} (n : Int) (h : (c.toNat : Int) = 45) : fit c n = decide (n ≤ 0) := by unfold fit; rw [if_neg (by omega), if_pos (by omega)]
theorem fit_zero {c : UInt8} (n : Int) (h : (c.toNat : Int) = 48) : fit c n = decide (n = 0) := by unfold fit; rw [if_neg (by omega), if_neg (by omega), if_pos (by omega)]
theorem fit_star {c : UInt8} (n : Int) (h : ¬ (c.toNat : Int) = 43) (h' : ¬ (c.toNat : Int) = 45) (h'' : ¬ (c.toNat : Int) = 48) : fit c n = true := by unfold fit; rw [if_neg (by omega), if_neg (by omega), if_neg (by omega)]

end Go.Proofs.Ytadabjkhiaidcaa.Post
end
