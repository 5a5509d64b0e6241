/- Plain words: what a ticket's coupons and taxes are worth, which are live, what they were at a day. Contracts: slices.Contains over statuses; ticket.Value, Taxes, Live. Contracts: the reference's Sum and Tax (13). The law TicketTells. -/
import Derived.Test.YtmadkfahkbdibaaTrK
import Derived.Test.YtmadkfahkbdibaaTrC
import Derived.Test.YtmadkfahkbdibaaTrJ
import Derived.Deep.QuietTactic
import Derived.BigQuiet
import Derived.Test.YtmadkfahkbdibaaTkW
import Derived.Test.YtmadkfahkbdibaaLater
set_option linter.unusedVariables false
set_option linter.unusedSimpArgs false
namespace Go.Proofs.Ytmadkfahkbdibaa
open Go.RowKit

namespace Tkt
def hitB (l : List Int) (s : Int) : Bool := l.isEmpty || l.contains s
def sumV (l : List Int) : List Cpn → Int
  | [] => 0
  | y :: r => (if hitB l y.st = true then y.va else 0) + sumV l r
def taxI : List Txx → Int
  | [] => 0
  | y :: r => y.am + taxI r
def liveN : List Cpn → Int
  | [] => 0
  | y :: r => (if liveB y.st = true then 1 else 0) + liveN r
def valueI (t : Tk) (l : List Int) : Int := if mayB t = true then sumV l t.cs else 0
def taxesI (t : Tk) : Int := if mayB t = true then taxI t.ts else 0
def liveI (t : Tk) : Int := if mayB t = true then liveN t.cs else 0
theorem sumV_append (l : List Int) : ∀ a b : List Cpn, sumV l (a ++ b) = sumV l a + sumV l b
  | [], b => by simp [sumV]
  | y :: a, b => by simp only [List.cons_append, sumV, sumV_append l a b]; omega
theorem taxI_append : ∀ a b : List Txx, taxI (a ++ b) = taxI a + taxI b
  | [], b => by simp [taxI]
  | y :: a, b => by simp only [List.cons_append, taxI, taxI_append a b]; omega
theorem liveN_append : ∀ a b : List Cpn, liveN (a ++ b) = liveN a + liveN b
  | [], b => by simp [liveN]
  | y :: a, b => by simp only [List.cons_append, liveN, liveN_append a b]; omega
theorem take_snocT {α : Type} {l : List α} {k : Nat} {y : α} (h : l[k]? = some y) : l.take (k + 1) = l.take k ++ [y] := by
  obtain ⟨hk, he⟩ := List.getElem?_eq_some_iff.1 h
  rw [List.take_succ_eq_append_getElem hk, he]
theorem sumV_snoc (l : List Int) {cs : List Cpn} {k : Nat} {y : Cpn} (h : cs[k]? = some y) : sumV l (cs.take (k + 1)) = sumV l (cs.take k) + if hitB l y.st = true then y.va else 0 := by
  rw [take_snocT h, sumV_append]
  simp [sumV]
theorem taxI_snoc {cs : List Txx} {k : Nat} {y : Txx} (h : cs[k]? = some y) : taxI (cs.take (k + 1)) = taxI (cs.take k) + y.am := by
  rw [take_snocT h, taxI_append]
  simp [taxI]
theorem liveN_snoc {cs : List Cpn} {k : Nat} {y : Cpn} (h : cs[k]? = some y) : liveN (cs.take (k + 1)) = liveN (cs.take k) + if liveB y.st = true then 1 else 0 := by
  rw [take_snocT h, liveN_append]
  simp [liveN]
theorem sumV_bound (l : List Int) : ∀ cs : List Cpn, (∀ y ∈ cs, 0 ≤ y.va ∧ y.va ≤ 1000000000000) → 0 ≤ sumV l cs ∧ sumV l cs ≤ 1000000000000 * cs.length
  | [], _ => by simp [sumV]
  | y :: r, h => by
    have h1 := h y (by simp)
    have h2 := sumV_bound l r (fun z hz => h z (by simp [hz]))
    simp only [sumV, List.length_cons]
    split <;> omega
theorem taxI_bound : ∀ cs : List Txx, (∀ y ∈ cs, 0 ≤ y.am ∧ y.am ≤ 1000000000000) → 0 ≤ taxI cs ∧ taxI cs ≤ 1000000000000 * cs.length
  | [], _ => by simp [taxI]
  | y :: r, h => by
    have h1 := h y (by simp)
    have h2 := taxI_bound r (fun z hz => h z (by simp [hz]))
    simp only [taxI, List.length_cons]
    omega
theorem liveN_bound : ∀ cs : List Cpn, 0 ≤ liveN cs ∧ liveN cs ≤ cs.length
  | [] => by simp [liveN]
  | y :: r => by
    have h2 := liveN_bound r
    simp only [liveN, List.length_cons]
    split <;> omega
theorem may_cpn {t : Tk} (hm : mayB t = true) : ∀ y ∈ t.cs, cpnB t.num y = true := by
  unfold mayB at hm
  simp only [Bool.and_eq_true, List.all_eq_true] at hm
  exact hm.1.1.2
theorem may_va {t : Tk} (hm : mayB t = true) : ∀ y ∈ t.cs, 0 ≤ y.va ∧ y.va ≤ 1000000000000 := fun y hy => by
  have := may_cpn hm y hy
  unfold cpnB someB at this
  simp only [Bool.and_eq_true, decide_eq_true_eq] at this
  omega
theorem may_st {t : Tk} (hm : mayB t = true) : ∀ y ∈ t.cs, stB y.st = true := fun y hy => by
  have := may_cpn hm y hy
  unfold cpnB at this
  simp only [Bool.and_eq_true] at this
  exact this.1.1.2
theorem tax_all : ∀ (k : Int) (l : List Txx), taxB k l = true → ∀ y ∈ l, 0 ≤ y.am ∧ y.am ≤ 1000000000000
  | k, [], _ => by simp
  | k, x :: r, h => by
    unfold taxB someB at h
    simp only [Bool.and_eq_true, decide_eq_true_eq] at h
    intro y hy
    rcases List.mem_cons.1 hy with rfl | hy
    · omega
    · exact tax_all _ r h.2 y hy
theorem may_am {t : Tk} (hm : mayB t = true) : ∀ y ∈ t.ts, 0 ≤ y.am ∧ y.am ≤ 1000000000000 := by
  unfold mayB at hm
  simp only [Bool.and_eq_true] at hm
  exact tax_all 1 t.ts hm.1.2
/-- a partial sum's bounds -/
theorem sum_part {t : Tk} (hm : mayB t = true) (l : List Int) (k : Nat) : 0 ≤ sumV l (t.cs.take k) ∧ sumV l (t.cs.take k) ≤ 4000000000000 := by
  have h1 := sumV_bound l (t.cs.take k) (fun y hy => may_va hm y (List.mem_of_mem_take hy))
  have h2 := mayB_lens hm
  have h3 : (t.cs.take k).length ≤ 4 := by rw [List.length_take]; omega
  omega
theorem tax_part {t : Tk} (hm : mayB t = true) (k : Nat) : 0 ≤ taxI (t.ts.take k) ∧ taxI (t.ts.take k) ≤ 4000000000000 := by
  have h1 := taxI_bound (t.ts.take k) (fun y hy => may_am hm y (List.mem_of_mem_take hy))
  have h2 := mayB_lens hm
  have h3 : (t.ts.take k).length ≤ 4 := by rw [List.length_take]; omega
  omega
/-- the sum over all statuses -/
def sumTo (cs : List Cpn) : Nat → Int
  | 0 => 0
  | k + 1 => sumTo cs k + sumV [((k : Int) + 1)] cs
theorem sumTo_cons (y : Cpn) (r : List Cpn) : ∀ k : Nat, sumTo (y :: r) k = (if 1 ≤ y.st ∧ y.st ≤ k then y.va else 0) + sumTo r k
  | 0 => by
    simp only [sumTo]
    split <;> omega
  | k + 1 => by
    simp only [sumTo, sumTo_cons y r k, sumV]
    have : hitB [((k : Int) + 1)] y.st = decide (y.st = (k : Int) + 1) := by simp [hitB]
    rw [this]
    simp only [decide_eq_true_eq]
    by_cases h : y.st = (k : Int) + 1
    · have h1 : ¬ (1 ≤ y.st ∧ y.st ≤ (k : Int)) := by omega
      have h2 : 1 ≤ y.st ∧ y.st ≤ ((k + 1 : Nat) : Int) := by omega
      rw [if_pos h, if_neg h1, if_pos h2]; omega
    · rw [if_neg h]
      by_cases h2 : 1 ≤ y.st ∧ y.st ≤ (k : Int)
      · have h3 : 1 ≤ y.st ∧ y.st ≤ ((k + 1 : Nat) : Int) := by omega
        rw [if_pos h2, if_pos h3]; omega
      · have h3 : ¬ (1 ≤ y.st ∧ y.st ≤ ((k + 1 : Nat) : Int)) := by omega
        rw [if_neg h2, if_neg h3]; omega
theorem sumTo_all : ∀ cs : List Cpn, (∀ y ∈ cs, stB y.st = true) → sumTo cs 9 = sumV [] cs
  | [], _ => by simp [sumTo, sumV]
  | y :: r, h => by
    rw [sumTo_cons, sumTo_all r (fun z hz => h z (by simp [hz])), sumV]
    have h1 := h y (by simp)
    unfold stB at h1
    simp only [Bool.and_eq_true, decide_eq_true_eq] at h1
    rw [if_pos (by omega), if_pos (by simp [hitB])]
theorem live_last {s : Int} (h : stB s = true) : liveB s = !lastB s := by
  unfold liveB lastB
  rw [h]
  simp
theorem told_days {u : Int} {n : Nat} {iss : Int} (hs : List Evt) : ∀ s, toldE u n iss hs = some s → s.at_ ≤ u → s.thn = s.now := by
  refine Wire.snocRec (M := fun hs => ∀ s, toldE u n iss hs = some s → s.at_ ≤ u → s.thn = s.now) ?_ ?_ hs
  · intro s h _
    injection h with h
    subst h
    rfl
  · intro l x ih s h hu
    rw [toldE_snoc] at h
    obtain ⟨s0, h0, hk, rfl⟩ := stepE_len h
    unfold evOk at hk
    simp only [Bool.and_eq_true, decide_eq_true_eq] at hk
    simp only [evDo] at hu ⊢
    rw [if_pos hu, ih s0 h0 (by omega)]
theorem then_last {t : Tk} (hm : mayB t = true) {u : Int} (hu : lastD t ≤ u) : thenL u t = t.cs.map (·.st) := by
  have hh : histB u t = true := by
    unfold mayB at hm
    simp only [Bool.and_eq_true] at hm
    rw [histB_any u 0]
    exact hm.2
  obtain ⟨s, hs, hn⟩ := hist_some hh
  unfold thenL
  rw [hs]
  simp only
  rw [told_days _ s hs (by rw [told_lastD hs]; exact hu), hn]
theorem then_len {t : Tk} (hm : mayB t = true) (u : Int) : (thenL u t).length = t.cs.length := by
  have hh : histB u t = true := by
    unfold mayB at hm
    simp only [Bool.and_eq_true] at hm
    rw [histB_any u 0]
    exact hm.2
  obtain ⟨s, hs, hn⟩ := hist_some hh
  unfold thenL
  rw [hs]
  exact (toldE_len _ hs).2.1
end Tkt
end Go.Proofs.Ytmadkfahkbdibaa

set_option linter.unusedVariables false
set_option linter.unusedSimpArgs false
namespace Go.Proofs.Ytmadkfahkbdibaa
open Go.RowKit

attribute [local go_sem ↓] Tk_execLoad Tk_execStore Cp_execLoad Cp_execStore Tx_execLoad Tx_execStore
attribute [local go_sem] Tk_load Tk_store Cp_load Cp_store Tx_load Tx_store loL_drew okL_drew there_sc World.there_drew
theorem Tkt.live_part {t : Tk} (hm : Tkt.mayB t = true) (k : Nat) : 0 ≤ Tkt.liveN (t.cs.take k) ∧ Tkt.liveN (t.cs.take k) ≤ 4 := by
  have h1 := Tkt.liveN_bound (t.cs.take k)
  have h2 := Tkt.mayB_lens hm
  have h3 : (t.cs.take k).length ≤ 4 := by rw [List.length_take]; omega
  omega

theorem ret_intT {k : IntKind} {a b : Int} (h : a = b) : Ending.returned (.int k a) = .returned (.int k b) := by rw [h]
/-- where a status is found -/
def IdxR (l : List Int) (s : Int) (w : World) (e : Ending) (w' : World) : Prop := ∃ r : Int, e = .returned (.int .i64 r) ∧ decide (0 ≤ r) = l.contains s ∧ w = w'
theorem has_none {l : List Int} {s : Int} (h : ∀ x ∈ l, x ≠ s) : l.contains s = false := by
  cases hc : l.contains s
  · rfl
  · exact absurd rfl (h s (by simpa using hc))
theorem take_none {l : List Int} {s x : Int} {k : Nat} (h : ∀ x ∈ l.take k, x ≠ s) (hx : l[k]? = some x) (hne : x ≠ s) : ∀ y ∈ l.take (k + 1), y ≠ s := by
  rw [Tkt.take_snocT hx]
  intro y hy
  rcases List.mem_append.1 hy with hy | hy
  · exact h y hy
  · rw [List.mem_singleton.1 hy]; exact hne

set_option maxRecDepth 4000 in
set_option maxHeartbeats 4000000 in
theorem indexSt_any (l : List Int) (s : Int) (p : Option Addr) (n cap : Nat) (w : World) (hs : LS stC 1 w (.slice p n cap) l) :
    Calls Try.prog 144 #[.slice p n cap, .int .i64 s] w fun e w' => IdxR l s w e w' := by
  have HS := Lib.hid hs
  have HN := Lib.hid hs.length
  have hn : n ≤ 9223372036854775807 := by have h1 := hs.length.2; unfold maxLen at h1; omega
  clear hs
  go_enter Try.func144, Try.ntmps144
  go_wp2
  go_loop [8] (fun i => ∃ k : Nat, k ≤ n ∧ i = .int .i64 k ∧ ∀ x ∈ l.take k, x ≠ s) (fun i => n - (intOf i).toNat)
  case atStart => exact ⟨0, Nat.zero_le _, rfl, by simp⟩
  case round =>
    obtain ⟨k, hk, rfl, hno⟩ := hrel
    have HNO := Lib.hid hno
    clear hno
    by_cases hlt : k < n
    · obtain ⟨x, hx⟩ : ∃ x, l[k]? = some x := ⟨_, List.getElem?_eq_getElem (by have := HN.out; omega)⟩
      obtain ⟨b, o, rfl, -, hr⟩ := HS.out.at hx
      have HX := Lib.hid hx
      have hc : w.cell? ⟨b, o + k, none⟩ = some (.int .i64 x) := by have := hr 0 _ rfl; rwa [Nat.mul_one] at this
      clear hr hx
      by_cases he : s = x
      · have heb : (s == x) = true := by simpa using he
        have HF : Hid (l.contains s = true) := Lib.hid (by have := List.mem_of_getElem? HX.out; rw [← he] at this; simpa using this)
        clear he
        go_wp2
        go_ret
        exact ⟨k, rfl, by rw [HF.out]; simp, rfl⟩
      · have heb : (s == x) = false := by simpa using he
        have HE := Lib.hid he
        clear he
        go_wp2
        go_round
        case rel => exact ⟨k + 1, by omega, by go_num, take_none HNO.out HX.out (fun h => HE.out h.symm)⟩
        case measure => simp [intOf]; omega
    · obtain rfl : k = n := by omega
      go_wp2
      go_ret
      exact ⟨-1, rfl, by rw [has_none (by have := HNO.out; rwa [List.take_of_length_le (by have := HN.out; omega)] at this)]; rfl, rfl⟩

set_option maxRecDepth 4000 in
set_option maxHeartbeats 4000000 in
theorem containsSt_any (l : List Int) (s : Int) (p : Option Addr) (n cap : Nat) (w : World) (hs : LS stC 1 w (.slice p n cap) l) :
    Calls Try.prog 91 #[.slice p n cap, .int .i64 s] w fun e w' => e = .returned (.bool (l.contains s)) ∧ w = w' := by
  have HI := Lib.hid (indexSt_any l s p n cap w hs)
  clear hs
  go_enter Try.func91, Try.ntmps91
  go_wp2_with fail
  refine HI.out.mono ?_
  rintro e w' ⟨r, rfl, hr, rfl⟩
  have HR := Lib.hid hr
  clear hr
  go_wp2
  go_ret
  exact ⟨ret_bool HR.out, rfl⟩

set_option maxHeartbeats 400000 in
theorem statusLive_any (n : Int) (w : World) : Calls Try.prog 92 #[.int .i64 n] w fun e w' => e = .returned (.bool (Tkt.liveB n)) ∧ w = w' := by
  have HB := Lib.hid (fun W => bits_any n W)
  have HL : Hid (Tkt.liveB n = (Tkt.bitsI n != 0)) := Lib.hid (by unfold Tkt.liveB; rw [Bool.eq_iff_iff]; simp)
  generalize Tkt.bitsI n = b at *
  go_enter Try.func92, Try.ntmps92
  go_wp2_with (go_at_call 116; refine (HB.out _).mono ?_; rintro e w' ⟨rfl, rfl⟩)
  go_ret
  exact ⟨ret_bool HL.out.symm, rfl⟩

set_option maxRecDepth 8000 in
set_option maxHeartbeats 4000000 in
theorem tvalue_any (t : Tk) (c x h : Sl) (l : List Int) (p : Option Addr) (n cap : Nat) (w : World) (ts : TS w t c x h) (hl : LS stC 1 w (.slice p n cap) l) :
    Calls Try.prog 33 #[.agg #[.int .u64 t.num, .string t.loc, .int .i64 t.iss, .slice c.p c.n c.c, .slice x.p x.n x.c, .int .u64 t.prev, .int .u64 t.org, .int .u64 t.fst, .int .i64 t.vou, .int .i64 t.posts, .slice h.p h.n h.c], .slice p n cap] w fun e w' => e = .returned (.int .i64 (Tkt.valueI t l)) ∧ Below w.heap.size w w' := by
  obtain ⟨pl, nl, cl⟩ := c
  simp only at *
  have HTS := Lib.hid ts
  have HNL := Lib.hid ts.cs.length
  have hn : nl ≤ 9223372036854775807 := by have h1 := HNL.out.2; unfold maxLen at h1; simp only at h1; omega
  have HB0 := Lib.hid ((Below.refl w.heap.size w).alloc (Nat.le_refl _) (.cells #[.int .u64 t.num, .string t.loc, .int .i64 t.iss, .slice pl nl cl, .slice x.p x.n x.c, .int .u64 t.prev, .int .u64 t.org, .int .u64 t.fst, .int .i64 t.vou, .int .i64 t.posts, .slice h.p h.n h.c] 27 (0, 0)))
  have HR0 := Lib.hid (new_rowW w (.cells #[.int .u64 t.num, .string t.loc, .int .i64 t.iss, .slice pl nl cl, .slice x.p x.n x.c, .int .u64 t.prev, .int .u64 t.org, .int .u64 t.fst, .int .i64 t.vou, .int .i64 t.posts, .slice h.p h.n h.c] 27 (0, 0)) _ rfl)
  have HM := Lib.hid (fun W hW => tmay_any t ⟨pl, nl, cl⟩ x h W (ts.below hW))
  obtain ⟨mb, hmb⟩ : ∃ m, Tkt.mayB t = m := ⟨_, rfl⟩
  have HMB := Lib.hid hmb
  rw [hmb] at HM
  have HLL := Lib.hid hl
  have HLN := Lib.hid hl.length.1
  clear hl
  clear hmb ts
  obtain ⟨R, hR⟩ : ∃ R, Tkt.valueI t l = R := ⟨_, rfl⟩
  rw [hR]
  have HRV := Lib.hid hR
  clear hR
  have hcs := fun j => cell_of_row _ w.heap.size j _ _ _ HR0.out
  go_enter Try.func33, Try.ntmps33
  go_wp2_with fail
  clear hcs
  go_loopw [5, 11] (fun sm i wr => ∃ k : Nat, k ≤ nl ∧ i = .int .i64 k ∧ sm = .int .i64 (if mb = true then Tkt.sumV l (t.cs.take k) else 0) ∧ Below w.heap.size w wr ∧ wr.heap[w.heap.size]? = some (.cells #[.int .u64 t.num, .string t.loc, .int .i64 t.iss, .slice pl nl cl, .slice x.p x.n x.c, .int .u64 t.prev, .int .u64 t.org, .int .u64 t.fst, .int .i64 t.vou, .int .i64 t.posts, .slice h.p h.n h.c] 27 (0, 0))) (fun _ i _ => nl - (intOf i).toNat)
  case atStart => exact ⟨0, Nat.zero_le _, rfl, by rw [List.take_zero]; cases mb <;> rfl, HB0.out, HR0.out⟩
  case round =>
    obtain ⟨k, hk, rfl, rfl, hb, hrow⟩ := hrel
    have HB := Lib.hid hb
    have HR := Lib.hid hrow
    clear hb hrow HB0 HR0
    by_cases hlt : k < nl
    · obtain ⟨y, hy⟩ : ∃ y, t.cs[k]? = some y := ⟨_, List.getElem?_eq_getElem (by have := HNL.out; (try simp only at this); omega)⟩
      have HY := Lib.hid hy
      obtain ⟨eb, ef, hp, -, hr⟩ := (HTS.out.below HB.out).cs.at hy
      simp only at hp
      subst hp
      obtain ⟨g1, g2⟩ := loL_of hr (Cpn.cells_length y)
      have g3 : y.cells = [.int .i64 y.fl, .int .i64 y.dy, .int .i64 y.va, .int .i64 y.st, .int .i64 y.ho, .int .u64 y.nx] := rfl
      rw [g3] at g1
      clear g3 hr hy
      have tc := there_newT (w := wr) (zs := [.int .i64 0, .int .i64 0, .int .i64 0, .int .i64 0, .int .i64 0, .int .u64 0]) (e := 44) (n := 6) rfl
      have c6n : ([.int .i64 y.fl, .int .i64 y.dy, .int .i64 y.va, .int .i64 y.st, .int .i64 y.ho, .int .u64 y.nx] : List Value).length = 6 := rfl
      have c6c : ([.int .i64 y.fl, .int .i64 y.dy, .int .i64 y.va, .int .i64 y.st, .int .i64 y.ho, .int .u64 y.nx] : List Value).all (·.oneCell') = true := rfl
      generalize hS : (if mb = true then Tkt.sumV l (t.cs.take k) else 0) = S at *
      have HS := Lib.hid hS
      clear hS
      go_upto_region 5 with fail
      have HP := Lib.hid (putRec (W := wr) (e := 44) (zs := [.int .i64 0, .int .i64 0, .int .i64 0, .int .i64 0, .int .i64 0, .int .u64 0]) (cs := [.int .i64 y.fl, .int .i64 y.dy, .int .i64 y.va, .int .i64 y.st, .int .i64 y.ho, .int .u64 y.nx]) rfl)
      have HB := Lib.hid (HB.out.trans (HP.out.2.mono HB.out.size))
      have HR := Lib.hid ((HP.out.2.block _ (block_lt HR.out)).trans HR.out)
      have HRC := Lib.hid HP.out.1
      clear HP tc c6n c6c g1 g2
      generalize (wr.alloc (.cells #[.int .i64 0, .int .i64 0, .int .i64 0, .int .i64 0, .int .i64 0, .int .u64 0] 44 (0, 0))).setCells wr.heap.size 0 [.int .i64 y.fl, .int .i64 y.dy, .int .i64 y.va, .int .i64 y.st, .int .i64 y.ho, .int .u64 y.nx] = w4 at *
      generalize wr.heap.size = gc at *
      obtain ⟨f1, f2⟩ := row_loT 11 HR.out rfl rfl
      have hcc := fun j => cell_of_row w4 gc j _ _ _ HRC.out
      cases mb
      · go_wp2_with (go_at_call 17; refine (HM.out _ HB.out).mono ?_; rintro e wn ⟨rfl, hbn⟩; have HB := Lib.hid (HB.out.trans (hbn.mono HB.out.size)); have HR := Lib.hid ((hbn.block _ (block_lt HR.out)).trans HR.out); have HRC := Lib.hid ((hbn.block _ (block_lt HRC.out)).trans HRC.out); have hcc := fun j => cell_of_row wn gc j _ _ _ HRC.out; clear hbn)
        go_roundw
        case rel => exact ⟨k + 1, by omega, by go_num, by rw [← HS.out]; rfl, HB.out, HR.out⟩
        case measure => simp [intOf]; omega
      · have hSe : Tkt.sumV l (t.cs.take k) = S := by have := HS.out; simpa using this
        have hS0 : 0 ≤ S := by rw [← hSe]; exact (Tkt.sum_part HMB.out l k).1
        have hS1 : S ≤ 4000000000000 := by rw [← hSe]; exact (Tkt.sum_part HMB.out l k).2
        have hv := Tkt.may_va HMB.out y (List.mem_of_getElem? HY.out)
        have hv0 := hv.1
        have hv1 := hv.2
        clear hv
        have HSE := Lib.hid hSe
        clear hSe
        obtain ⟨q, hq⟩ : ∃ q, Tkt.hitB l y.st = q := ⟨_, rfl⟩
        have HIT := Lib.hid hq
        by_cases hl0 : n = 0
        · have hle : l = [] := List.length_eq_zero_iff.1 (by have := HLN.out; omega)
          have hqt : q = true := by rw [← hq, hle]; rfl
          subst hqt
          subst hl0
          clear hq hle
          go_wp2_with (go_at_call 17; refine (HM.out _ HB.out).mono ?_; rintro e wn ⟨rfl, hbn⟩; have HB := Lib.hid (HB.out.trans (hbn.mono HB.out.size)); have HR := Lib.hid ((hbn.block _ (block_lt HR.out)).trans HR.out); have HRC := Lib.hid ((hbn.block _ (block_lt HRC.out)).trans HRC.out); have hcc := fun j => cell_of_row wn gc j _ _ _ HRC.out; clear hbn)
          go_roundw
          case rel => exact ⟨k + 1, by omega, by go_num, by rw [Tkt.sumV_snoc l HY.out, HSE.out, HIT.out, if_pos rfl], HB.out, HR.out⟩
          case measure => simp [intOf]; omega
        · have hln0 : ((n : Int) == 0) = false := beq_eq_false_iff_ne.2 (by omega)
          have hqc : l.contains y.st = q := by rw [← hq, Tkt.hitB]; cases l with | nil => exact absurd (by have := HLN.out; simpa using this) hl0 | cons a r => simp
          have HC := Lib.hid (fun W hW => hqc ▸ containsSt_any l y.st p n cap W (HLL.out.below hW))
          clear hqc hq hl0
          cases q
          · go_wp2_with (first | (go_at_call 17; refine (HM.out _ HB.out).mono ?_; rintro e wn ⟨rfl, hbn⟩; have HB := Lib.hid (HB.out.trans (hbn.mono HB.out.size)); have HR := Lib.hid ((hbn.block _ (block_lt HR.out)).trans HR.out); have HRC := Lib.hid ((hbn.block _ (block_lt HRC.out)).trans HRC.out); have hcc := fun j => cell_of_row wn gc j _ _ _ HRC.out; clear hbn) | (go_at_call 91; refine (HC.out _ HB.out).mono ?_; rintro e w' ⟨rfl, rfl⟩))
            go_roundw
            case rel => exact ⟨k + 1, by omega, by go_num, by rw [Tkt.sumV_snoc l HY.out, HSE.out, HIT.out, if_neg (by simp), Int.add_zero], HB.out, HR.out⟩
            case measure => simp [intOf]; omega
          · go_wp2_with (first | (go_at_call 17; refine (HM.out _ HB.out).mono ?_; rintro e wn ⟨rfl, hbn⟩; have HB := Lib.hid (HB.out.trans (hbn.mono HB.out.size)); have HR := Lib.hid ((hbn.block _ (block_lt HR.out)).trans HR.out); have HRC := Lib.hid ((hbn.block _ (block_lt HRC.out)).trans HRC.out); have hcc := fun j => cell_of_row wn gc j _ _ _ HRC.out; clear hbn) | (go_at_call 91; refine (HC.out _ HB.out).mono ?_; rintro e w' ⟨rfl, rfl⟩))
            go_roundw
            case rel => exact ⟨k + 1, by omega, by go_num, by rw [Tkt.sumV_snoc l HY.out, HSE.out, HIT.out, if_pos rfl], HB.out, HR.out⟩
            case measure => simp [intOf]; omega
    · have hkn : k = nl := by omega
      subst hkn
      have hlen : t.cs.take k = t.cs := List.take_of_length_le (by have := HNL.out; (try simp only at this); omega)
      have HLE := Lib.hid hlen
      clear hlen
      cases mb
      · have HR0 : Hid (R = 0) := Lib.hid (by rw [← HRV.out, Tkt.valueI, if_neg (by rw [HMB.out]; simp)])
        go_wp2
        go_ret
        exact ⟨ret_intT HR0.out.symm, HB.out⟩
      · have HR0 : Hid (R = Tkt.sumV l (t.cs.take k)) := Lib.hid (by rw [← HRV.out, Tkt.valueI, if_pos HMB.out, HLE.out])
        go_wp2
        go_ret
        exact ⟨ret_intT HR0.out.symm, HB.out⟩

set_option maxRecDepth 8000 in
set_option maxHeartbeats 4000000 in
theorem ttaxes_any (t : Tk) (c x h : Sl) (w : World) (ts : TS w t c x h) :
    Calls Try.prog 34 #[.agg #[.int .u64 t.num, .string t.loc, .int .i64 t.iss, .slice c.p c.n c.c, .slice x.p x.n x.c, .int .u64 t.prev, .int .u64 t.org, .int .u64 t.fst, .int .i64 t.vou, .int .i64 t.posts, .slice h.p h.n h.c]] w fun e w' => e = .returned (.int .i64 (Tkt.taxesI t)) ∧ Below w.heap.size w w' := by
  obtain ⟨pl, nl, cl⟩ := x
  simp only at *
  have HTS := Lib.hid ts
  have HNL := Lib.hid ts.ts.length
  have hn : nl ≤ 9223372036854775807 := by have h1 := HNL.out.2; unfold maxLen at h1; simp only at h1; omega
  have HB0 := Lib.hid ((Below.refl w.heap.size w).alloc (Nat.le_refl _) (.cells #[.int .u64 t.num, .string t.loc, .int .i64 t.iss, .slice c.p c.n c.c, .slice pl nl cl, .int .u64 t.prev, .int .u64 t.org, .int .u64 t.fst, .int .i64 t.vou, .int .i64 t.posts, .slice h.p h.n h.c] 27 (0, 0)))
  have HR0 := Lib.hid (new_rowW w (.cells #[.int .u64 t.num, .string t.loc, .int .i64 t.iss, .slice c.p c.n c.c, .slice pl nl cl, .int .u64 t.prev, .int .u64 t.org, .int .u64 t.fst, .int .i64 t.vou, .int .i64 t.posts, .slice h.p h.n h.c] 27 (0, 0)) _ rfl)
  have HM := Lib.hid (fun W hW => tmay_any t c ⟨pl, nl, cl⟩ h W (ts.below hW))
  obtain ⟨mb, hmb⟩ : ∃ m, Tkt.mayB t = m := ⟨_, rfl⟩
  have HMB := Lib.hid hmb
  rw [hmb] at HM
  clear hmb ts
  obtain ⟨R, hR⟩ : ∃ R, Tkt.taxesI t = R := ⟨_, rfl⟩
  rw [hR]
  have HRV := Lib.hid hR
  clear hR
  have hcs := fun j => cell_of_row _ w.heap.size j _ _ _ HR0.out
  go_enter Try.func34, Try.ntmps34
  go_wp2_with fail
  clear hcs
  go_loopw [3, 9] (fun sm i wr => ∃ k : Nat, k ≤ nl ∧ i = .int .i64 k ∧ sm = .int .i64 (if mb = true then Tkt.taxI (t.ts.take k) else 0) ∧ Below w.heap.size w wr ∧ wr.heap[w.heap.size]? = some (.cells #[.int .u64 t.num, .string t.loc, .int .i64 t.iss, .slice c.p c.n c.c, .slice pl nl cl, .int .u64 t.prev, .int .u64 t.org, .int .u64 t.fst, .int .i64 t.vou, .int .i64 t.posts, .slice h.p h.n h.c] 27 (0, 0))) (fun _ i _ => nl - (intOf i).toNat)
  case atStart => exact ⟨0, Nat.zero_le _, rfl, by rw [List.take_zero]; cases mb <;> rfl, HB0.out, HR0.out⟩
  case round =>
    obtain ⟨k, hk, rfl, rfl, hb, hrow⟩ := hrel
    have HB := Lib.hid hb
    have HR := Lib.hid hrow
    clear hb hrow HB0 HR0
    by_cases hlt : k < nl
    · obtain ⟨y, hy⟩ : ∃ y, t.ts[k]? = some y := ⟨_, List.getElem?_eq_getElem (by have := HNL.out; (try simp only at this); omega)⟩
      have HY := Lib.hid hy
      obtain ⟨eb, ef, hp, -, hr⟩ := (HTS.out.below HB.out).ts.at hy
      simp only at hp
      subst hp
      obtain ⟨g1, g2⟩ := loL_of hr (Txx.cells_length y)
      have g3 : y.cells = [.int .i64 y.cd, .int .i64 y.am] := rfl
      rw [g3] at g1
      clear g3 hr hy
      have tc := there_newT (w := wr) (zs := [.int .i64 0, .int .i64 0]) (e := 48) (n := 2) rfl
      have c6n : ([.int .i64 y.cd, .int .i64 y.am] : List Value).length = 2 := rfl
      have c6c : ([.int .i64 y.cd, .int .i64 y.am] : List Value).all (·.oneCell') = true := rfl
      generalize hS : (if mb = true then Tkt.taxI (t.ts.take k) else 0) = S at *
      have HS := Lib.hid hS
      clear hS
      go_upto_region 5 with fail
      have HP := Lib.hid (putRec (W := wr) (e := 48) (zs := [.int .i64 0, .int .i64 0]) (cs := [.int .i64 y.cd, .int .i64 y.am]) rfl)
      have HB := Lib.hid (HB.out.trans (HP.out.2.mono HB.out.size))
      have HR := Lib.hid ((HP.out.2.block _ (block_lt HR.out)).trans HR.out)
      have HRC := Lib.hid HP.out.1
      clear HP tc c6n c6c g1 g2
      generalize (wr.alloc (.cells #[.int .i64 0, .int .i64 0] 48 (0, 0))).setCells wr.heap.size 0 [.int .i64 y.cd, .int .i64 y.am] = w4 at *
      generalize wr.heap.size = gc at *
      obtain ⟨f1, f2⟩ := row_loT 11 HR.out rfl rfl
      have hcc := fun j => cell_of_row w4 gc j _ _ _ HRC.out
      cases mb
      · go_wp2_with (go_at_call 17; refine (HM.out _ HB.out).mono ?_; rintro e wn ⟨rfl, hbn⟩; have HB := Lib.hid (HB.out.trans (hbn.mono HB.out.size)); have HR := Lib.hid ((hbn.block _ (block_lt HR.out)).trans HR.out); have HRC := Lib.hid ((hbn.block _ (block_lt HRC.out)).trans HRC.out); have hcc := fun j => cell_of_row wn gc j _ _ _ HRC.out; clear hbn)
        go_roundw
        case rel => exact ⟨k + 1, by omega, by go_num, by rw [← HS.out]; rfl, HB.out, HR.out⟩
        case measure => simp [intOf]; omega
      · have hSe : Tkt.taxI (t.ts.take k) = S := by have := HS.out; simpa using this
        have hS0 : 0 ≤ S := by rw [← hSe]; exact (Tkt.tax_part HMB.out k).1
        have hS1 : S ≤ 4000000000000 := by rw [← hSe]; exact (Tkt.tax_part HMB.out k).2
        have hv := Tkt.may_am HMB.out y (List.mem_of_getElem? HY.out)
        have hv0 := hv.1
        have hv1 := hv.2
        clear hv
        have HSE := Lib.hid hSe
        clear hSe
        go_wp2_with (go_at_call 17; refine (HM.out _ HB.out).mono ?_; rintro e wn ⟨rfl, hbn⟩; have HB := Lib.hid (HB.out.trans (hbn.mono HB.out.size)); have HR := Lib.hid ((hbn.block _ (block_lt HR.out)).trans HR.out); have HRC := Lib.hid ((hbn.block _ (block_lt HRC.out)).trans HRC.out); have hcc := fun j => cell_of_row wn gc j _ _ _ HRC.out; clear hbn)
        go_roundw
        case rel => exact ⟨k + 1, by omega, by go_num, by rw [Tkt.taxI_snoc HY.out, HSE.out], HB.out, HR.out⟩
        case measure => simp [intOf]; omega
    · have hkn : k = nl := by omega
      subst hkn
      have hlen : t.ts.take k = t.ts := List.take_of_length_le (by have := HNL.out; (try simp only at this); omega)
      have HLE := Lib.hid hlen
      clear hlen
      cases mb
      · have HR0 : Hid (R = 0) := Lib.hid (by rw [← HRV.out, Tkt.taxesI, if_neg (by rw [HMB.out]; simp)])
        go_wp2
        go_ret
        exact ⟨ret_intT HR0.out.symm, HB.out⟩
      · have HR0 : Hid (R = Tkt.taxI (t.ts.take k)) := Lib.hid (by rw [← HRV.out, Tkt.taxesI, if_pos HMB.out, HLE.out])
        go_wp2
        go_ret
        exact ⟨ret_intT HR0.out.symm, HB.out⟩

set_option maxRecDepth 8000 in
set_option maxHeartbeats 4000000 in
theorem tlive_any (t : Tk) (c x h : Sl) (w : World) (ts : TS w t c x h) :
    Calls Try.prog 35 #[.agg #[.int .u64 t.num, .string t.loc, .int .i64 t.iss, .slice c.p c.n c.c, .slice x.p x.n x.c, .int .u64 t.prev, .int .u64 t.org, .int .u64 t.fst, .int .i64 t.vou, .int .i64 t.posts, .slice h.p h.n h.c]] w fun e w' => e = .returned (.int .i64 (Tkt.liveI t)) ∧ Below w.heap.size w w' := by
  obtain ⟨pl, nl, cl⟩ := c
  simp only at *
  have HTS := Lib.hid ts
  have HNL := Lib.hid ts.cs.length
  have hn : nl ≤ 9223372036854775807 := by have h1 := HNL.out.2; unfold maxLen at h1; simp only at h1; omega
  have HB0 := Lib.hid ((Below.refl w.heap.size w).alloc (Nat.le_refl _) (.cells #[.int .u64 t.num, .string t.loc, .int .i64 t.iss, .slice pl nl cl, .slice x.p x.n x.c, .int .u64 t.prev, .int .u64 t.org, .int .u64 t.fst, .int .i64 t.vou, .int .i64 t.posts, .slice h.p h.n h.c] 27 (0, 0)))
  have HR0 := Lib.hid (new_rowW w (.cells #[.int .u64 t.num, .string t.loc, .int .i64 t.iss, .slice pl nl cl, .slice x.p x.n x.c, .int .u64 t.prev, .int .u64 t.org, .int .u64 t.fst, .int .i64 t.vou, .int .i64 t.posts, .slice h.p h.n h.c] 27 (0, 0)) _ rfl)
  have HM := Lib.hid (fun W hW => tmay_any t ⟨pl, nl, cl⟩ x h W (ts.below hW))
  obtain ⟨mb, hmb⟩ : ∃ m, Tkt.mayB t = m := ⟨_, rfl⟩
  have HMB := Lib.hid hmb
  rw [hmb] at HM
  clear hmb ts
  obtain ⟨R, hR⟩ : ∃ R, Tkt.liveI t = R := ⟨_, rfl⟩
  rw [hR]
  have HRV := Lib.hid hR
  clear hR
  have hcs := fun j => cell_of_row _ w.heap.size j _ _ _ HR0.out
  go_enter Try.func35, Try.ntmps35
  go_wp2_with fail
  clear hcs
  go_loopw [3, 9] (fun sm i wr => ∃ k : Nat, k ≤ nl ∧ i = .int .i64 k ∧ sm = .int .i64 (if mb = true then Tkt.liveN (t.cs.take k) else 0) ∧ Below w.heap.size w wr ∧ wr.heap[w.heap.size]? = some (.cells #[.int .u64 t.num, .string t.loc, .int .i64 t.iss, .slice pl nl cl, .slice x.p x.n x.c, .int .u64 t.prev, .int .u64 t.org, .int .u64 t.fst, .int .i64 t.vou, .int .i64 t.posts, .slice h.p h.n h.c] 27 (0, 0))) (fun _ i _ => nl - (intOf i).toNat)
  case atStart => exact ⟨0, Nat.zero_le _, rfl, by rw [List.take_zero]; cases mb <;> rfl, HB0.out, HR0.out⟩
  case round =>
    obtain ⟨k, hk, rfl, rfl, hb, hrow⟩ := hrel
    have HB := Lib.hid hb
    have HR := Lib.hid hrow
    clear hb hrow HB0 HR0
    by_cases hlt : k < nl
    · obtain ⟨y, hy⟩ : ∃ y, t.cs[k]? = some y := ⟨_, List.getElem?_eq_getElem (by have := HNL.out; (try simp only at this); omega)⟩
      have HY := Lib.hid hy
      obtain ⟨eb, ef, hp, -, hr⟩ := (HTS.out.below HB.out).cs.at hy
      simp only at hp
      subst hp
      obtain ⟨g1, g2⟩ := loL_of hr (Cpn.cells_length y)
      have g3 : y.cells = [.int .i64 y.fl, .int .i64 y.dy, .int .i64 y.va, .int .i64 y.st, .int .i64 y.ho, .int .u64 y.nx] := rfl
      rw [g3] at g1
      clear g3 hr hy
      have tc := there_newT (w := wr) (zs := [.int .i64 0, .int .i64 0, .int .i64 0, .int .i64 0, .int .i64 0, .int .u64 0]) (e := 44) (n := 6) rfl
      have c6n : ([.int .i64 y.fl, .int .i64 y.dy, .int .i64 y.va, .int .i64 y.st, .int .i64 y.ho, .int .u64 y.nx] : List Value).length = 6 := rfl
      have c6c : ([.int .i64 y.fl, .int .i64 y.dy, .int .i64 y.va, .int .i64 y.st, .int .i64 y.ho, .int .u64 y.nx] : List Value).all (·.oneCell') = true := rfl
      generalize hS : (if mb = true then Tkt.liveN (t.cs.take k) else 0) = S at *
      have HS := Lib.hid hS
      clear hS
      go_upto_region 5 with fail
      have HP := Lib.hid (putRec (W := wr) (e := 44) (zs := [.int .i64 0, .int .i64 0, .int .i64 0, .int .i64 0, .int .i64 0, .int .u64 0]) (cs := [.int .i64 y.fl, .int .i64 y.dy, .int .i64 y.va, .int .i64 y.st, .int .i64 y.ho, .int .u64 y.nx]) rfl)
      have HB := Lib.hid (HB.out.trans (HP.out.2.mono HB.out.size))
      have HR := Lib.hid ((HP.out.2.block _ (block_lt HR.out)).trans HR.out)
      have HRC := Lib.hid HP.out.1
      clear HP tc c6n c6c g1 g2
      generalize (wr.alloc (.cells #[.int .i64 0, .int .i64 0, .int .i64 0, .int .i64 0, .int .i64 0, .int .u64 0] 44 (0, 0))).setCells wr.heap.size 0 [.int .i64 y.fl, .int .i64 y.dy, .int .i64 y.va, .int .i64 y.st, .int .i64 y.ho, .int .u64 y.nx] = w4 at *
      generalize wr.heap.size = gc at *
      obtain ⟨f1, f2⟩ := row_loT 11 HR.out rfl rfl
      have hcc := fun j => cell_of_row w4 gc j _ _ _ HRC.out
      cases mb
      · go_wp2_with (go_at_call 17; refine (HM.out _ HB.out).mono ?_; rintro e wn ⟨rfl, hbn⟩; have HB := Lib.hid (HB.out.trans (hbn.mono HB.out.size)); have HR := Lib.hid ((hbn.block _ (block_lt HR.out)).trans HR.out); have HRC := Lib.hid ((hbn.block _ (block_lt HRC.out)).trans HRC.out); have hcc := fun j => cell_of_row wn gc j _ _ _ HRC.out; clear hbn)
        go_roundw
        case rel => exact ⟨k + 1, by omega, by go_num, by rw [← HS.out]; rfl, HB.out, HR.out⟩
        case measure => simp [intOf]; omega
      · have hSe : Tkt.liveN (t.cs.take k) = S := by have := HS.out; simpa using this
        have hS0 : 0 ≤ S := by rw [← hSe]; exact (Tkt.live_part HMB.out k).1
        have hS1 : S ≤ 4 := by rw [← hSe]; exact (Tkt.live_part HMB.out k).2
        have HSE := Lib.hid hSe
        clear hSe
        have HLV := Lib.hid (fun W => statusLive_any y.st W)
        obtain ⟨q, hq⟩ : ∃ q, Tkt.liveB y.st = q := ⟨_, rfl⟩
        rw [hq] at HLV
        have HIT := Lib.hid hq
        clear hq
        cases q
        · go_wp2_with (first | (go_at_call 17; refine (HM.out _ HB.out).mono ?_; rintro e wn ⟨rfl, hbn⟩; have HB := Lib.hid (HB.out.trans (hbn.mono HB.out.size)); have HR := Lib.hid ((hbn.block _ (block_lt HR.out)).trans HR.out); have HRC := Lib.hid ((hbn.block _ (block_lt HRC.out)).trans HRC.out); have hcc := fun j => cell_of_row wn gc j _ _ _ HRC.out; clear hbn) | (go_at_call 92; refine (HLV.out _).mono ?_; rintro e w' ⟨rfl, rfl⟩))
          go_roundw
          case rel => exact ⟨k + 1, by omega, by go_num, by rw [Tkt.liveN_snoc HY.out, HSE.out, HIT.out, if_neg (by simp), Int.add_zero], HB.out, HR.out⟩
          case measure => simp [intOf]; omega
        · go_wp2_with (first | (go_at_call 17; refine (HM.out _ HB.out).mono ?_; rintro e wn ⟨rfl, hbn⟩; have HB := Lib.hid (HB.out.trans (hbn.mono HB.out.size)); have HR := Lib.hid ((hbn.block _ (block_lt HR.out)).trans HR.out); have HRC := Lib.hid ((hbn.block _ (block_lt HRC.out)).trans HRC.out); have hcc := fun j => cell_of_row wn gc j _ _ _ HRC.out; clear hbn) | (go_at_call 92; refine (HLV.out _).mono ?_; rintro e w' ⟨rfl, rfl⟩))
          go_roundw
          case rel => exact ⟨k + 1, by omega, by go_num, by rw [Tkt.liveN_snoc HY.out, HSE.out, HIT.out, if_pos rfl], HB.out, HR.out⟩
          case measure => simp [intOf]; omega
    · have hkn : k = nl := by omega
      subst hkn
      have hlen : t.cs.take k = t.cs := List.take_of_length_le (by have := HNL.out; (try simp only at this); omega)
      have HLE := Lib.hid hlen
      clear hlen
      cases mb
      · have HR0 : Hid (R = 0) := Lib.hid (by rw [← HRV.out, Tkt.liveI, if_neg (by rw [HMB.out]; simp)])
        go_wp2
        go_ret
        exact ⟨ret_intT HR0.out.symm, HB.out⟩
      · have HR0 : Hid (R = Tkt.liveN (t.cs.take k)) := Lib.hid (by rw [← HRV.out, Tkt.liveI, if_pos HMB.out, HLE.out])
        go_wp2
        go_ret
        exact ⟨ret_intT HR0.out.symm, HB.out⟩
end Go.Proofs.Ytmadkfahkbdibaa

set_option linter.unusedVariables false
set_option linter.unusedSimpArgs false
namespace Go.Proofs.Ytmadkfahkbdibaa
open Go.RowKit

theorem contains_snocT (l : List Int) (z s : Int) : (l ++ [z]).contains s = (l.contains s || (z == s)) := by
  rw [Bool.eq_iff_iff]
  simp
  constructor
  · rintro (h | h)
    · exact .inl h
    · exact .inr h.symm
  · rintro (h | h)
    · exact .inl h
    · exact .inr h.symm
attribute [local go_sem ↓] Tk_execLoad Cp_execLoad Tx_execLoad
attribute [local go_sem] Tk_load Cp_load Tx_load loL_drew okL_drew
set_option maxRecDepth 8000 in
set_option maxHeartbeats 4000000 in
theorem rsum_any (t : Tk) (c x h : Sl) (l : List Int) (p : Option Addr) (n cap : Nat) (w : World) (ts : TS w t c x h) (hm : Tkt.mayB t = true) (hl : LS stC 1 w (.slice p n cap) l) :
    Calls Try.prog 38 #[.agg #[.int .u64 t.num, .string t.loc, .int .i64 t.iss, .slice c.p c.n c.c, .slice x.p x.n x.c, .int .u64 t.prev, .int .u64 t.org, .int .u64 t.fst, .int .i64 t.vou, .int .i64 t.posts, .slice h.p h.n h.c], .slice p n cap] w fun e w' => e = .returned (.int .i64 (Tkt.sumV l t.cs)) ∧ Below w.heap.size w w' := by
  obtain ⟨pl, nl, cl⟩ := c
  simp only at *
  have HTS := Lib.hid ts
  have HNL := Lib.hid ts.cs.length
  have HMB := Lib.hid hm
  have hn : nl ≤ 9223372036854775807 := by have h1 := HNL.out.2; unfold maxLen at h1; (try simp only at h1); omega
  have HB0 := Lib.hid ((Below.refl w.heap.size w).alloc (Nat.le_refl _) (.cells #[.int .u64 t.num, .string t.loc, .int .i64 t.iss, .slice pl nl cl, .slice x.p x.n x.c, .int .u64 t.prev, .int .u64 t.org, .int .u64 t.fst, .int .i64 t.vou, .int .i64 t.posts, .slice h.p h.n h.c] 27 (0, 0)))
  have HR0 := Lib.hid (new_rowW w (.cells #[.int .u64 t.num, .string t.loc, .int .i64 t.iss, .slice pl nl cl, .slice x.p x.n x.c, .int .u64 t.prev, .int .u64 t.org, .int .u64 t.fst, .int .i64 t.vou, .int .i64 t.posts, .slice h.p h.n h.c] 27 (0, 0)) _ rfl)
  have HLL := Lib.hid hl
  have HLN := Lib.hid hl.length
  have hnl : n ≤ 9223372036854775807 := by have h1 := HLN.out.2; unfold maxLen at h1; (try simp only at h1); omega
  clear hl ts hm
  have hcs := fun j => cell_of_row _ w.heap.size j _ _ _ HR0.out
  go_enter Try.func38, Try.ntmps38
  go_wp2_with fail
  clear hcs
  go_loopw [5, 6] (fun sm i wr => ∃ k : Nat, k ≤ nl ∧ i = .int .i64 k ∧ sm = .int .i64 (Tkt.sumV l (t.cs.take k)) ∧ Below w.heap.size w wr ∧ wr.heap[w.heap.size]? = some (.cells #[.int .u64 t.num, .string t.loc, .int .i64 t.iss, .slice pl nl cl, .slice x.p x.n x.c, .int .u64 t.prev, .int .u64 t.org, .int .u64 t.fst, .int .i64 t.vou, .int .i64 t.posts, .slice h.p h.n h.c] 27 (0, 0))) (fun _ i _ => nl - (intOf i).toNat)
  case atStart => exact ⟨0, Nat.zero_le _, rfl, by rw [List.take_zero]; rfl, HB0.out, HR0.out⟩
  case round =>
    obtain ⟨k, hk, rfl, rfl, hb, hrow⟩ := hrel
    have HB := Lib.hid hb
    have HR := Lib.hid hrow
    clear hb hrow HB0 HR0
    have hcs := fun j => cell_of_row _ w.heap.size j _ _ _ HR.out
    by_cases hlt : k < nl
    · obtain ⟨y, hy⟩ : ∃ y, t.cs[k]? = some y := ⟨_, List.getElem?_eq_getElem (by have := HNL.out; (try simp only at this); omega)⟩
      have HY := Lib.hid hy
      obtain ⟨S, hS⟩ : ∃ S, Tkt.sumV l (t.cs.take k) = S := ⟨_, rfl⟩
      have HS := Lib.hid hS
      have hS0 : 0 ≤ S := by rw [← hS]; exact (Tkt.sum_part HMB.out l k).1
      have hS1 : S ≤ 4000000000000 := by rw [← hS]; exact (Tkt.sum_part HMB.out l k).2
      rw [hS]
      have hv := Tkt.may_va HMB.out y (List.mem_of_getElem? hy)
      have hv0 := hv.1
      have hv1 := hv.2
      clear hv hy hS
      go_wp2_with fail
      clear hcs
      generalize hww : wr = w1 at *
      clear hww
      go_loopw [7, 8] (fun i m wr => ∃ j : Nat, j ≤ n ∧ m = .int .i64 j ∧ i = .bool (l.isEmpty || (l.take j).contains y.st) ∧ Below w1.heap.size w1 wr) (fun _ m _ => n - (intOf m).toNat)
      case atStart => exact ⟨0, Nat.zero_le _, rfl, by rw [List.take_zero]; exact congrArg Value.bool (by cases l with | nil => (have h0 := HLN.out.1; simp at h0; subst h0; rfl) | cons a r => (have h0 := HLN.out.1; simp at h0; subst h0; simp; omega)), Below.refl _ _⟩
      case round =>
        obtain ⟨j, hj, rfl, rfl, hbz⟩ := hrel
        have HBZ := Lib.hid hbz
        have HR2 := Lib.hid ((hbz.block _ (block_lt HR.out)).trans HR.out)
        have HB2 := Lib.hid (HB.out.trans (hbz.mono HB.out.size))
        clear hbz
        obtain ⟨eb, ef, hp, -, hr⟩ := (HTS.out.below HB2.out).cs.at HY.out
        simp only at hp
        have hc3 : wr.cell? ⟨w.heap.size, 3, none⟩ = some (.slice (some ⟨eb, ef, none⟩) nl cl) := by rw [← hp]; exact cell_of_row _ w.heap.size 3 _ _ _ HR2.out
        have hst : wr.cell? ⟨eb, ef + k * 6 + 3, none⟩ = some (.int .i64 y.st) := hr 3 _ rfl
        have hva : wr.cell? ⟨eb, ef + k * 6 + 2, none⟩ = some (.int .i64 y.va) := hr 2 _ rfl
        clear hp hr
        obtain ⟨q, hq⟩ : ∃ q, (l.isEmpty || (l.take j).contains y.st) = q := ⟨_, rfl⟩
        rw [hq]
        have HQ := Lib.hid hq
        clear hq
        by_cases hlj : j < n
        · obtain ⟨z, hz⟩ : ∃ z, l[j]? = some z := ⟨_, List.getElem?_eq_getElem (by have := HLN.out; omega)⟩
          have HZ := Lib.hid hz
          obtain ⟨lb, lf, hp2, -, hr2⟩ := (HLL.out.below HB2.out).at hz
          subst hp2
          have hz2 : wr.cell? ⟨lb, lf + j, none⟩ = some (.int .i64 z) := by have := hr2 0 _ rfl; rwa [Nat.mul_one] at this
          clear hz hr2
          have hj0 : (0 : Int) ≤ j := by omega
          have hj1 : (j : Int) < n := by omega
          have hk0 : (0 : Int) ≤ k := by omega
          have hk1 : (k : Int) < nl := by omega
          have HNX : Hid ((l.isEmpty || (l.take (j + 1)).contains y.st) = (q || (z == y.st))) := Lib.hid (by rw [← HQ.out, Tkt.take_snocT HZ.out, contains_snocT, Bool.or_assoc])
          have HBD : Hid (∀ n, Below w1.heap.size w1 (wr.drewN n)) := Lib.hid (fun n => bdrewN HBZ.out n)
          cases q
          · by_cases hzy : z = y.st
            · have hzb : (z == y.st) = true := by simpa using hzy
              go_wp2_with fail
              go_quiet (fail)
              go_wp2_with fail
              go_roundw
              case rel => exact ⟨j + 1, by omega, by go_num, by rw [HNX.out, hzb]; rfl, HBD.out _⟩
              case measure => simp [intOf]; omega
            · have hzb : (z == y.st) = false := by simpa using hzy
              clear hzy
              go_wp2_with fail
              go_quiet (fail)
              go_wp2_with fail
              go_roundw
              case rel => exact ⟨j + 1, by omega, by go_num, by rw [HNX.out, hzb]; rfl, HBD.out _⟩
              case measure => simp [intOf]; omega
          · go_wp2_with fail
            go_quiet (fail)
            go_wp2_with fail
            go_roundw
            case rel => exact ⟨j + 1, by omega, by go_num, by rw [HNX.out]; rfl, HBD.out _⟩
            case measure => simp [intOf]; omega
        · have hjn : j = n := by omega
          subst hjn
          have hqh : Tkt.hitB l y.st = q := by rw [← HQ.out, List.take_of_length_le (by have := HLN.out; omega)]; rfl
          have HIT := Lib.hid hqh
          clear hqh
          cases q
          · go_wp2_with fail
            go_roundw
            case rel => exact ⟨k + 1, by omega, by go_num, by rw [Tkt.sumV_snoc l HY.out, HS.out, HIT.out, if_neg (by simp), Int.add_zero], HB2.out, HR2.out⟩
            case measure => simp [intOf]; omega
          · go_wp2_with fail
            go_roundw
            case rel => exact ⟨k + 1, by omega, by go_num, by rw [Tkt.sumV_snoc l HY.out, HS.out, HIT.out, if_pos rfl], HB2.out, HR2.out⟩
            case measure => simp [intOf]; omega
    · have hkn : k = nl := by omega
      subst hkn
      have hlen : t.cs.take k = t.cs := List.take_of_length_le (by have := HNL.out; (try simp only at this); omega)
      rw [hlen]
      clear hlen
      go_wp2_with fail
      go_ret
      exact ⟨rfl, HB.out⟩

set_option maxRecDepth 8000 in
set_option maxHeartbeats 4000000 in
theorem rtax_any (t : Tk) (c x h : Sl) (w : World) (ts : TS w t c x h) (hm : Tkt.mayB t = true) :
    Calls Try.prog 39 #[.agg #[.int .u64 t.num, .string t.loc, .int .i64 t.iss, .slice c.p c.n c.c, .slice x.p x.n x.c, .int .u64 t.prev, .int .u64 t.org, .int .u64 t.fst, .int .i64 t.vou, .int .i64 t.posts, .slice h.p h.n h.c]] w fun e w' => e = .returned (.int .i64 (Tkt.taxI t.ts)) ∧ Below w.heap.size w w' := by
  obtain ⟨pl, nl, cl⟩ := x
  simp only at *
  have HTS := Lib.hid ts
  have HNL := Lib.hid ts.ts.length
  have HMB := Lib.hid hm
  have hn : nl ≤ 9223372036854775807 := by have h1 := HNL.out.2; unfold maxLen at h1; (try simp only at h1); omega
  have HB0 := Lib.hid ((Below.refl w.heap.size w).alloc (Nat.le_refl _) (.cells #[.int .u64 t.num, .string t.loc, .int .i64 t.iss, .slice c.p c.n c.c, .slice pl nl cl, .int .u64 t.prev, .int .u64 t.org, .int .u64 t.fst, .int .i64 t.vou, .int .i64 t.posts, .slice h.p h.n h.c] 27 (0, 0)))
  have HR0 := Lib.hid (new_rowW w (.cells #[.int .u64 t.num, .string t.loc, .int .i64 t.iss, .slice c.p c.n c.c, .slice pl nl cl, .int .u64 t.prev, .int .u64 t.org, .int .u64 t.fst, .int .i64 t.vou, .int .i64 t.posts, .slice h.p h.n h.c] 27 (0, 0)) _ rfl)
  clear ts hm
  have hcs := fun j => cell_of_row _ w.heap.size j _ _ _ HR0.out
  go_enter Try.func39, Try.ntmps39
  go_wp2_with fail
  clear hcs
  go_loopw [3, 4] (fun sm i wr => ∃ k : Nat, k ≤ nl ∧ i = .int .i64 k ∧ sm = .int .i64 (Tkt.taxI (t.ts.take k)) ∧ Below w.heap.size w wr ∧ wr.heap[w.heap.size]? = some (.cells #[.int .u64 t.num, .string t.loc, .int .i64 t.iss, .slice c.p c.n c.c, .slice pl nl cl, .int .u64 t.prev, .int .u64 t.org, .int .u64 t.fst, .int .i64 t.vou, .int .i64 t.posts, .slice h.p h.n h.c] 27 (0, 0))) (fun _ i _ => nl - (intOf i).toNat)
  case atStart => exact ⟨0, Nat.zero_le _, rfl, by rw [List.take_zero]; rfl, HB0.out, HR0.out⟩
  case round =>
    obtain ⟨k, hk, rfl, rfl, hb, hrow⟩ := hrel
    have HB := Lib.hid hb
    have HR := Lib.hid hrow
    clear hb hrow HB0 HR0
    by_cases hlt : k < nl
    · obtain ⟨y, hy⟩ : ∃ y, t.ts[k]? = some y := ⟨_, List.getElem?_eq_getElem (by have := HNL.out; (try simp only at this); omega)⟩
      have HY := Lib.hid hy
      obtain ⟨S, hS⟩ : ∃ S, Tkt.taxI (t.ts.take k) = S := ⟨_, rfl⟩
      have HS := Lib.hid hS
      have hS0 : 0 ≤ S := by rw [← hS]; exact (Tkt.tax_part HMB.out k).1
      have hS1 : S ≤ 4000000000000 := by rw [← hS]; exact (Tkt.tax_part HMB.out k).2
      rw [hS]
      have hv := Tkt.may_am HMB.out y (List.mem_of_getElem? hy)
      have hv0 := hv.1
      have hv1 := hv.2
      clear hv hy hS
      obtain ⟨eb, ef, hp, -, hr⟩ := (HTS.out.below HB.out).ts.at HY.out
      simp only at hp
      have hc4 : wr.cell? ⟨w.heap.size, 4, none⟩ = some (.slice (some ⟨eb, ef, none⟩) nl cl) := by rw [← hp]; exact cell_of_row _ w.heap.size 4 _ _ _ HR.out
      have hva : wr.cell? ⟨eb, ef + k * 2 + 1, none⟩ = some (.int .i64 y.am) := hr 1 _ rfl
      clear hp hr
      go_wp2_with fail
      go_roundw
      case rel => exact ⟨k + 1, by omega, by go_num, by rw [Tkt.taxI_snoc HY.out, HS.out], HB.out, HR.out⟩
      case measure => simp [intOf]; omega
    · have hcs := fun j => cell_of_row _ w.heap.size j _ _ _ HR.out
      have hkn : k = nl := by omega
      subst hkn
      have hlen : t.ts.take k = t.ts := List.take_of_length_le (by have := HNL.out; (try simp only at this); omega)
      rw [hlen]
      clear hlen
      go_wp2_with fail
      go_ret
      exact ⟨rfl, HB.out⟩
end Go.Proofs.Ytmadkfahkbdibaa

set_option linter.unusedVariables false
set_option linter.unusedSimpArgs false
namespace Go.Proofs.Ytmadkfahkbdibaa.ticketTells
open Go.ChangeShapes Go.WideShapes Go.ChangeAt Go.RowKit Go.Deep

attribute [local go_sem ↓] Tk_execLoad Tk_execStore
attribute [local go_sem] Tk_load Tk_store loL_drew okL_drew there_sc World.there_drew
theorem ls_ofT {w : World} {base m : Nat} {v : Value} {l : List Int} (h : w.ownsRow base 35 1 v m (List.map (Value.int .i64) l)) : LS stC 1 w v l := by
  rw [← encL_st] at h
  exact LS.of_own h (fun _ => rfl) (by decide)
theorem st_one {w : World} {g : Nat} {z : Int} (hg : g = w.heap.size) : LS stC 1 (w.alloc (.cells #[.int .i64 z] 35 (0, 0))) (.slice (some ⟨g, 0, none⟩) 1 1) [z] :=
  row_one (enc := stC) (x := z) (new_rowW _ _ _ hg) rfl (fun _ => rfl) (by decide)
theorem iss_may {t : Tk} (hm : Tkt.mayB t = true) : 0 ≤ t.iss := by
  unfold Tkt.mayB Tkt.headB Tkt.dayB at hm
  simp at hm
  omega
theorem hist_may {t : Tk} (hm : Tkt.mayB t = true) {u : Int} : Tkt.histB u t = true := by
  unfold Tkt.mayB at hm
  simp only [Bool.and_eq_true] at hm
  rw [Tkt.histB_any u 0]
  exact hm.2
theorem sumTo_bound {t : Tk} (hm : Tkt.mayB t = true) : ∀ k : Nat, 0 ≤ Tkt.sumTo t.cs k ∧ Tkt.sumTo t.cs k ≤ 4000000000000 * k
  | 0 => by simp [Tkt.sumTo]
  | k + 1 => by
    have h1 := sumTo_bound hm k
    have h2 := Tkt.sum_part hm [((k : Int) + 1)] 4
    rw [List.take_of_length_le (by have := Tkt.mayB_lens hm; omega)] at h2
    simp only [Tkt.sumTo]
    omega
set_option maxRecDepth 8000 in
set_option maxHeartbeats 8000000 in
theorem walk (t : Tk) (c x h : Sl) (l : List Int) (p : Option Addr) (n cap : Nat) (day : Int) (w : World) (ts : TS w t c x h) (hl : LS stC 1 w (.slice p n cap) l) : Calls Try.prog 9 #[.agg #[.int .u64 t.num, .string t.loc, .int .i64 t.iss, .slice c.p c.n c.c, .slice x.p x.n x.c, .int .u64 t.prev, .int .u64 t.org, .int .u64 t.fst, .int .i64 t.vou, .int .i64 t.posts, .slice h.p h.n h.c], .slice p n cap, .int .i64 day] w fun e w' => e = .returned (.bool true) ∧ Below w.heap.size w w' := by
  have HTT := Lib.hid ts
  have HLL := Lib.hid hl
  have HLN := Lib.hid hl.length
  have hnl : n ≤ 9223372036854775807 := by have h1 := HLN.out.2; unfold maxLen at h1; (try simp only at h1); omega
  have HKN := Lib.hid (fun W => known13_any W)
  have HM := Lib.hid (fun W hW => rmuch_any t c x h W (ts.below hW))
  have HMA := Lib.hid (fun W hW => rmay_any t c x h W (ts.below hW))
  have HAT0 := Lib.hid (fun W hW => tat_any t c x h day W (ts.below hW))
  have HTX := Lib.hid (fun W hW => ttaxes_any t c x h W (ts.below hW))
  have HLI := Lib.hid (fun W hW => tlive_any t c x h W (ts.below hW))
  have HV := Lib.hid (fun W hW => tvalue_any t c x h l p n cap W (ts.below hW) (hl.below hW))
  obtain ⟨mu, hmu⟩ : ∃ m, Tkt.muchB t = m := ⟨_, rfl⟩
  have HMU := Lib.hid hmu
  rw [hmu] at HM
  obtain ⟨mb, hmb⟩ : ∃ m, Tkt.mayB t = m := ⟨_, rfl⟩
  have HMB := Lib.hid hmb
  rw [hmb] at HMA
  have HB := Lib.hid ((Below.refl w.heap.size w).alloc (Nat.le_refl _) (.cells #[.int .u64 t.num, .string t.loc, .int .i64 t.iss, .slice c.p c.n c.c, .slice x.p x.n x.c, .int .u64 t.prev, .int .u64 t.org, .int .u64 t.fst, .int .i64 t.vou, .int .i64 t.posts, .slice h.p h.n h.c] 27 (0, 0)))
  have HR := Lib.hid (new_rowW w (.cells #[.int .u64 t.num, .string t.loc, .int .i64 t.iss, .slice c.p c.n c.c, .slice x.p x.n x.c, .int .u64 t.prev, .int .u64 t.org, .int .u64 t.fst, .int .i64 t.vou, .int .i64 t.posts, .slice h.p h.n h.c] 27 (0, 0)) _ rfl)
  obtain ⟨f1, f2⟩ := row_loT 11 HR.out rfl rfl
  clear hmu hmb
  by_cases hgo : mu = false ∧ n ≤ 20
  · obtain ⟨rfl, h70⟩ := hgo
    go_enter Try.func9, Try.ntmps9
    go_upto_region 3 with (go_at_call 11; (with_reducible refine (HM.out _ HB.out).mono ?_); rintro e wn ⟨rfl, hbn⟩; have HB := Lib.hid (HB.out.trans (hbn.mono HB.out.size)); have HR := Lib.hid ((hbn.block _ (block_lt HR.out)).trans HR.out); obtain ⟨f1, f2⟩ := row_loT 11 HR.out rfl rfl; clear hbn)
    go_upto_region 4 with (go_at_call 20; (with_reducible refine (HAT0.out _ HB.out).mono ?_); rintro e wn ⟨v, rfl, hown, hbn⟩; have HA0 := Lib.hid (ls_ofT hown); clear hown; have HB := Lib.hid (HB.out.trans (hbn.mono HB.out.size)); have HR := Lib.hid ((hbn.block _ (block_lt HR.out)).trans HR.out); obtain ⟨f1, f2⟩ := row_loT 11 HR.out rfl rfl; clear hbn)
    cases mb
    · have hA : Tkt.atL day t = [] := by rw [Tkt.atL, if_neg (by rw [HMB.out]; simp)]
      have hV : Tkt.valueI t l = 0 := by rw [Tkt.valueI, if_neg (by rw [HMB.out]; simp)]
      have hT : Tkt.taxesI t = 0 := by rw [Tkt.taxesI, if_neg (by rw [HMB.out]; simp)]
      have hL : Tkt.liveI t = 0 := by rw [Tkt.liveI, if_neg (by rw [HMB.out]; simp)]
      rw [hA] at HA0
      rw [hV] at HV
      rw [hT] at HTX
      rw [hL] at HLI
      obtain ⟨pa, ca, hv⟩ := HA0.out.shape
      subst hv
      simp only [List.length_nil] at *
      clear hA hV hT hL ts hl
      go_wp2_with (first | (go_at_call 18; (with_reducible refine (HMA.out _ HB.out).mono ?_); rintro e wn ⟨rfl, hbn⟩; have HB := Lib.hid (HB.out.trans (hbn.mono HB.out.size)); have HR := Lib.hid ((hbn.block _ (block_lt HR.out)).trans HR.out); have HA0 := Lib.hid (HA0.out.below hbn); obtain ⟨f1, f2⟩ := row_loT 11 HR.out rfl rfl; clear hbn) | (go_at_call 33; (with_reducible refine (HV.out _ HB.out).mono ?_); rintro e wn ⟨rfl, hbn⟩; have HB := Lib.hid (HB.out.trans (hbn.mono HB.out.size)); have HR := Lib.hid ((hbn.block _ (block_lt HR.out)).trans HR.out); obtain ⟨f1, f2⟩ := row_loT 11 HR.out rfl rfl; clear hbn) | (go_at_call 34; (with_reducible refine (HTX.out _ HB.out).mono ?_); rintro e wn ⟨rfl, hbn⟩; have HB := Lib.hid (HB.out.trans (hbn.mono HB.out.size)); have HR := Lib.hid ((hbn.block _ (block_lt HR.out)).trans HR.out); obtain ⟨f1, f2⟩ := row_loT 11 HR.out rfl rfl; clear hbn) | (go_at_call 35; (with_reducible refine (HLI.out _ HB.out).mono ?_); rintro e wn ⟨rfl, hbn⟩; have HB := Lib.hid (HB.out.trans (hbn.mono HB.out.size)); have HR := Lib.hid ((hbn.block _ (block_lt HR.out)).trans HR.out); obtain ⟨f1, f2⟩ := row_loT 11 HR.out rfl rfl; clear hbn) | (go_at_call 12; (with_reducible refine (HKN.out _).mono ?_); rintro e wn ⟨rfl, hbn⟩; have HB := Lib.hid (HB.out.trans (hbn.mono HB.out.size)); have HR := Lib.hid ((hbn.block _ (block_lt HR.out)).trans HR.out); obtain ⟨f1, f2⟩ := row_loT 11 HR.out rfl rfl; clear hbn))
      go_ret
      exact ⟨rfl, HB.out⟩
    · have hA : Tkt.atL day t = Tkt.thenL day t := by rw [Tkt.atL, if_pos HMB.out]
      rw [hA] at HA0
      have hV : Tkt.valueI t l = Tkt.sumV l t.cs := by rw [Tkt.valueI, if_pos HMB.out]
      have hT : Tkt.taxesI t = Tkt.taxI t.ts := by rw [Tkt.taxesI, if_pos HMB.out]
      have hL : Tkt.liveI t = Tkt.liveN t.cs := by rw [Tkt.liveI, if_pos HMB.out]
      rw [hV] at HV
      rw [hT] at HTX
      rw [hL] at HLI
      have HRS := Lib.hid (fun W hW => rsum_any t c x h l p n cap W (ts.below hW) HMB.out (hl.below hW))
      have HRT := Lib.hid (fun W hW => rtax_any t c x h W (ts.below hW) HMB.out)
      have HLD := Lib.hid (fun W hW => rlast_any t c x h W (ts.below hW))
      have HV0 := Lib.hid (fun W hW => tvalue_any t c x h [] none 0 0 W (ts.below hW) (LS.nil _))
      have hV0 : Tkt.valueI t [] = Tkt.sumV [] t.cs := by rw [Tkt.valueI, if_pos HMB.out]
      rw [hV0] at HV0
      have HTH := Lib.hid (fun W hW => rthen_any t c x h day W (ts.below hW) (by have := Tkt.mayB_lens HMB.out; omega) (iss_may HMB.out))
      rw [hist_may HMB.out] at HTH
      obtain ⟨pa, ca, hv⟩ := HA0.out.shape
      subst hv
      have HCL := Lib.hid (Tkt.then_len HMB.out day)
      obtain ⟨A, hAA⟩ : ∃ A, Tkt.thenL day t = A := ⟨_, rfl⟩
      rw [hAA] at HA0 HTH HCL
      have HAA := Lib.hid hAA
      have hlA : A.length = c.n := by rw [HCL.out]; exact ts.cs.length.1.symm
      have HLA := Lib.hid hlA
      rw [hAA, hlA]
      rw [hlA] at HA0
      have hcn : c.n ≤ 4 := by have := Tkt.mayB_lens HMB.out; have := ts.cs.length.1; omega
      have HCN := Lib.hid hcn
      clear hA hV hT hL hV0 hAA hlA ts hl
      go_upto_region 7 with (go_at_call 18; (with_reducible refine (HMA.out _ HB.out).mono ?_); rintro e wn ⟨rfl, hbn⟩; have HB := Lib.hid (HB.out.trans (hbn.mono HB.out.size)); have HR := Lib.hid ((hbn.block _ (block_lt HR.out)).trans HR.out); have HA0 := Lib.hid (HA0.out.below hbn); obtain ⟨f1, f2⟩ := row_loT 11 HR.out rfl rfl; clear hbn)
      clear f1 f2
      go_wp2_with fail
      generalize hww : wn = w1 at *
      clear hww
      go_loopw [8, 9] (fun lv i wr => ∃ k : Nat, k ≤ c.n ∧ i = .int .i64 k ∧ lv = .int .i64 (Tkt.liveN (t.cs.take k)) ∧ Below w1.heap.size w1 wr) (fun _ i _ => c.n - (intOf i).toNat)
      case atStart => exact ⟨0, Nat.zero_le _, rfl, rfl, Below.refl _ _⟩
      case round =>
        obtain ⟨k, hk, rfl, rfl, hbz⟩ := hrel
        have HBZ := Lib.hid hbz
        have HR2 := Lib.hid ((hbz.block _ (block_lt HR.out)).trans HR.out)
        have HB2 := Lib.hid (HB.out.trans (hbz.mono HB.out.size))
        clear hbz
        by_cases hlt : k < c.n
        · obtain ⟨y, hy⟩ : ∃ y, t.cs[k]? = some y := ⟨_, List.getElem?_eq_getElem (by have := HLA.out; have := HCL.out; omega)⟩
          have HY := Lib.hid hy
          obtain ⟨eb, ef, hp, -, hr⟩ := (HTT.out.below HB2.out).cs.at hy
          have hc3 : wr.cell? ⟨w.heap.size, 3, none⟩ = some (.slice (some ⟨eb, ef, none⟩) c.n c.c) := by rw [← hp]; exact cell_of_row _ w.heap.size 3 _ _ _ HR2.out
          have hst : wr.cell? ⟨eb, ef + k * 6 + 3, none⟩ = some (.int .i64 y.st) := hr 3 _ rfl
          clear hp hr hy
          have hlb := Tkt.liveN_bound (t.cs.take k)
          rw [List.length_take] at hlb
          obtain ⟨L, hL⟩ : ∃ L, Tkt.liveN (t.cs.take k) = L := ⟨_, rfl⟩
          rw [hL]
          have HL := Lib.hid hL
          have hL0 : 0 ≤ L := by omega
          have hL1 : L ≤ 4 := by omega
          clear hlb hL
          have HSN := Lib.hid (Tkt.liveN_snoc HY.out)
          rw [HL.out, Tkt.live_last (Tkt.may_st HMB.out y (List.mem_of_getElem? HY.out))] at HSN
          have HLS := Lib.hid (fun W => last12_any y.st W)
          obtain ⟨q, hq⟩ : ∃ q, Tkt.lastB y.st = q := ⟨_, rfl⟩
          rw [hq] at HLS HSN
          clear hq
          cases q
          · go_wp2_with (go_at_call 19; refine (HLS.out _).mono ?_; rintro e wn ⟨rfl, hbn⟩; have HBZ := Lib.hid (HBZ.out.trans (hbn.mono HBZ.out.size)); clear hbn)
            go_roundw
            case rel => exact ⟨k + 1, by omega, by go_num, by rw [HSN.out]; rfl, HBZ.out⟩
            case measure => simp [intOf]; omega
          · go_wp2_with (go_at_call 19; refine (HLS.out _).mono ?_; rintro e wn ⟨rfl, hbn⟩; have HBZ := Lib.hid (HBZ.out.trans (hbn.mono HBZ.out.size)); clear hbn)
            go_roundw
            case rel => exact ⟨k + 1, by omega, by go_num, by rw [HSN.out]; simp, HBZ.out⟩
            case measure => simp [intOf]; omega
        · have hkn : k = c.n := by omega
          subst hkn
          have hlen : t.cs.take c.n = t.cs := List.take_of_length_le (by have := HLA.out; have := HCL.out; omega)
          rw [hlen]
          clear hlen
          have HA2 := Lib.hid (HA0.out.below HBZ.out)
          clear HBZ
          have hc3 : wr.cell? ⟨w.heap.size, 3, none⟩ = some (.slice c.p c.n c.c) := cell_of_row _ w.heap.size 3 _ _ _ HR2.out
          obtain ⟨f1, f2⟩ := row_loT 11 HR2.out rfl rfl
          go_wp2_with fail
          refine (HTH.out _ HB2.out).mono ?_
          rintro e wn ⟨v, rfl, hown, hbn⟩
          have HW2 := Lib.hid (ls_ofT (hown (by trivial)))
          clear hown
          have HB2 := Lib.hid (HB2.out.trans (hbn.mono HB2.out.size))
          have HR2 := Lib.hid ((hbn.block _ (block_lt HR2.out)).trans HR2.out)
          have HA2 := Lib.hid (HA2.out.below hbn)
          clear hbn
          go_upto_region 13 with fail
          clear f1 f2 hc3
          obtain ⟨pw, cw, hv⟩ := HW2.out.shape
          rw [HLA.out] at hv
          subst hv
          go_wp2_with fail
          generalize hww : wn = w2 at *
          clear hww
          go_loopw [12] (fun i wr => ∃ k : Nat, k ≤ c.n ∧ i = .int .i64 k ∧ Below w2.heap.size w2 wr) (fun i _ => c.n - (intOf i).toNat)
          case atStart => exact ⟨0, Nat.zero_le _, rfl, Below.refl _ _⟩
          case round =>
            obtain ⟨k, hk, rfl, hbz⟩ := hrel
            have HBZ := Lib.hid hbz
            have HR3 := Lib.hid ((hbz.block _ (block_lt HR2.out)).trans HR2.out)
            have HB3 := Lib.hid (HB2.out.trans (hbz.mono HB2.out.size))
            clear hbz
            by_cases hlt : k < c.n
            · obtain ⟨y, hy⟩ : ∃ y, t.cs[k]? = some y := ⟨_, List.getElem?_eq_getElem (by have := HLA.out; have := HCL.out; omega)⟩
              obtain ⟨z, hz⟩ : ∃ z, A[k]? = some z := ⟨_, List.getElem?_eq_getElem (by have := HLA.out; omega)⟩
              have HY := Lib.hid hy; have HZ := Lib.hid hz
              obtain ⟨eb, ef, hp, -, -⟩ := (HTT.out.below HB3.out).cs.at hy
              obtain ⟨ab, af, hpa, -, -⟩ := HA2.out.at hz
              obtain ⟨bb, bf, hpb, -, -⟩ := HW2.out.at hz
              subst hpa; subst hpb
              have HP := Lib.hid hp
              clear hp hy hz
              have HCC : Hid (∀ u : Later wr, u.val.cell? ⟨w.heap.size, 3, none⟩ = some (.slice (some ⟨eb, ef, none⟩) c.n c.c) ∧ u.val.cell? ⟨eb, ef + k * 6 + 3, none⟩ = some (.int .i64 y.st) ∧ u.val.cell? ⟨ab, af + k, none⟩ = some (.int .i64 z) ∧ u.val.cell? ⟨bb, bf + k, none⟩ = some (.int .i64 z) ∧ loL 11 u.val w.heap.size 0 = [.int .u64 t.num, .string t.loc, .int .i64 t.iss, .slice c.p c.n c.c, .slice x.p x.n x.c, .int .u64 t.prev, .int .u64 t.org, .int .u64 t.fst, .int .i64 t.vou, .int .i64 t.posts, .slice h.p h.n h.c] ∧ okL 11 u.val w.heap.size 0) := Lib.hid (fun u => by
                have hr := (u.prop.block _ (block_lt HR3.out)).trans HR3.out
                obtain ⟨f1, f2⟩ := row_loT 11 hr rfl rfl
                obtain ⟨b1, o1, e1, -, r1⟩ := (HTT.out.below (HB3.out.trans (u.prop.mono HB3.out.size))).cs.at HY.out
                obtain ⟨b2, o2, e2, -, r2⟩ := (HA2.out.below (HBZ.out.trans (u.prop.mono HBZ.out.size))).at HZ.out
                obtain ⟨b3, o3, e3, -, r3⟩ := (HW2.out.below (HBZ.out.trans (u.prop.mono HBZ.out.size))).at HZ.out
                rw [HP.out] at e1; injection e1 with e1; injection e1 with e4 e5; injection e2 with e2; injection e2 with e6 e7; injection e3 with e3; injection e3 with e8 e9; subst e4 e5 e6 e7 e8 e9
                refine ⟨by rw [← HP.out]; exact cell_of_row _ w.heap.size 3 _ _ _ hr, r1 3 _ rfl, ?_, ?_, f1, f2⟩
                · have := r2 0 _ rfl; rwa [Nat.mul_one] at this
                · have := r3 0 _ rfl; rwa [Nat.mul_one] at this)
              have k0 := fun u => (HCC.out u).1; have k1 := fun u => (HCC.out u).2.1; have k2 := fun u => (HCC.out u).2.2.1; have k3 := fun u => (HCC.out u).2.2.2.1; have k4 := fun u => (HCC.out u).2.2.2.2.1; have k5 := fun u => (HCC.out u).2.2.2.2.2
              have HLU := Lib.hid (fun u : Later wr => HLD.out u.val (HB3.out.trans (u.prop.mono HB3.out.size)))
              have hk0 : (0 : Int) ≤ k := by omega
              have hk1 : (k : Int) < c.n := by omega
              obtain ⟨ld, hld⟩ : ∃ d, Tkt.lastD t = d := ⟨_, rfl⟩
              rw [hld] at HLU
              have HLDE := Lib.hid hld
              clear hld
              have HZY : Hid (ld ≤ day → z = y.st) := Lib.hid (fun hd => by have h1 := Tkt.then_last HMB.out (HLDE.out ▸ hd); rw [HAA.out] at h1; have h2 := HZ.out; rw [h1, List.getElem?_map, HY.out] at h2; injection h2 with h2; exact h2.symm)
              skip
              go_upto_region 18 with fail
              by_cases hd : ld ≤ day
              · obtain rfl := HZY.out hd
                have hdb : decide (ld ≤ day) = true := by simpa using hd
                clear hd
                refine wp_region_later (by kernel_rfl) (by kernel_rfl) ?_
                repeat (go_big_quiet_step ((go_at_call 37; exact later_call (HLU.out _))))
                refine wpQuiet_nil ?_
                rintro w9 ⟨u, rfl⟩
                have HBU := Lib.hid (HBZ.out.trans (u.prop.mono HBZ.out.size))
                clear k0 k1 k2 k3 k4 k5
                generalize u.val = w9 at *
                go_wp2_with fail
                go_roundw
                case rel => exact ⟨k + 1, by omega, by go_num, HBU.out⟩
                case measure => simp [intOf]; omega
              · have hdb : decide (ld ≤ day) = false := by simpa using hd
                clear hd
                refine wp_region_later (by kernel_rfl) (by kernel_rfl) ?_
                repeat (go_big_quiet_step ((go_at_call 37; exact later_call (HLU.out _))))
                refine wpQuiet_nil ?_
                rintro w9 ⟨u, rfl⟩
                have HBU := Lib.hid (HBZ.out.trans (u.prop.mono HBZ.out.size))
                clear k0 k1 k2 k3 k4 k5
                generalize u.val = w9 at *
                go_wp2_with fail
                go_roundw
                case rel => exact ⟨k + 1, by omega, by go_num, HBU.out⟩
                case measure => simp [intOf]; omega
            · have hkn : k = c.n := by omega
              subst hkn
              clear HA2 HW2 HBZ
              go_wp2_with fail
              generalize hww : wr = w3 at *
              clear hww
              go_loopw [13, 14] (fun al s wr => ∃ k : Nat, k ≤ 9 ∧ s = .int .i64 ((k : Int) + 1) ∧ al = .int .i64 (Tkt.sumTo t.cs k) ∧ Below w3.heap.size w3 wr) (fun _ s _ => 10 - (intOf s).toNat)
              case atStart => exact ⟨0, Nat.zero_le _, rfl, rfl, Below.refl _ _⟩
              case round =>
                obtain ⟨k, hk, rfl, rfl, hbz⟩ := hrel
                have HBZ := Lib.hid hbz
                have HR4 := Lib.hid ((hbz.block _ (block_lt HR3.out)).trans HR3.out)
                have HB4 := Lib.hid (HB3.out.trans (hbz.mono HB3.out.size))
                clear hbz
                by_cases hlt : k < 9
                · have hb1 := sumTo_bound HMB.out k
                  have hb2 := Tkt.sum_part HMB.out [((k : Int) + 1)] 4
                  rw [List.take_of_length_le (by have := Tkt.mayB_lens HMB.out; omega)] at hb2
                  have HSV : Hid (Tkt.sumTo t.cs (k + 1) = Tkt.sumTo t.cs k + Tkt.sumV [((k : Int) + 1)] t.cs) := Lib.hid rfl
                  obtain ⟨S, hS⟩ : ∃ S, Tkt.sumTo t.cs k = S := ⟨_, rfl⟩
                  obtain ⟨V, hV⟩ : ∃ V, Tkt.sumV [((k : Int) + 1)] t.cs = V := ⟨_, rfl⟩
                  rw [hS, hV] at HSV
                  rw [hS]
                  rw [hS] at hb1
                  rw [hV] at hb2
                  obtain ⟨hS0, hS1⟩ := hb1
                  obtain ⟨hV0, hV1⟩ := hb2
                  have HVK : Hid (∀ W, LS stC 1 W (.slice (some ⟨wr.heap.size, 0, none⟩) 1 1) [((k : Int) + 1)] → Below w.heap.size w W → Calls Try.prog 33 #[.agg #[.int .u64 t.num, .string t.loc, .int .i64 t.iss, .slice c.p c.n c.c, .slice x.p x.n x.c, .int .u64 t.prev, .int .u64 t.org, .int .u64 t.fst, .int .i64 t.vou, .int .i64 t.posts, .slice h.p h.n h.c], .slice (some ⟨wr.heap.size, 0, none⟩) 1 1] W fun e w' => e = .returned (.int .i64 V) ∧ Below W.heap.size W w') := Lib.hid (fun W h1 hW => by have := tvalue_any t c x h _ _ _ _ W (HTT.out.below hW) h1; rwa [Tkt.valueI, if_pos HMB.out, hV] at this)
                  clear hS hV
                  obtain ⟨f1, f2⟩ := row_loT 11 HR4.out rfl rfl
                  go_wp2_with fail
                  refine (HVK.out _ (st_one rfl) (HB4.out.alloc HB4.out.size _)).mono ?_
                  rintro e wn ⟨rfl, hbn⟩
                  have HBN := Lib.hid (HBZ.out.trans ((((Below.refl wr.heap.size wr).alloc (Nat.le_refl _) _).trans (hbn.mono (by simp))).mono HBZ.out.size))
                  clear hbn f1 f2
                  go_wp2_with fail
                  go_roundw
                  case rel => exact ⟨k + 1, by omega, by go_num, by rw [HSV.out], HBN.out⟩
                  case measure => simp [intOf]; omega
                · have hkn : k = 9 := by omega
                  subst hkn
                  rw [Tkt.sumTo_all t.cs (Tkt.may_st HMB.out)]
                  obtain ⟨S0, hS0⟩ : ∃ S, Tkt.sumV [] t.cs = S := ⟨_, rfl⟩
                  obtain ⟨S1, hS1⟩ : ∃ S, Tkt.sumV l t.cs = S := ⟨_, rfl⟩
                  obtain ⟨S2, hS2⟩ : ∃ S, Tkt.taxI t.ts = S := ⟨_, rfl⟩
                  obtain ⟨S3, hS3⟩ : ∃ S, Tkt.liveN t.cs = S := ⟨_, rfl⟩
                  rw [hS0] at HV0
                  rw [hS1] at HV HRS
                  rw [hS2] at HTX HRT
                  rw [hS3] at HLI
                  rw [hS0, hS3]
                  clear hS0 hS1 hS2 hS3 hlt
                  go_upto_region 25 with fail
                  have HUB := Lib.hid (fun u : Later wr => HB4.out.trans (u.prop.mono HB4.out.size))
                  have HLF : Hid (∀ u : Later wr, loL 11 u.val w.heap.size 0 = [.int .u64 t.num, .string t.loc, .int .i64 t.iss, .slice c.p c.n c.c, .slice x.p x.n x.c, .int .u64 t.prev, .int .u64 t.org, .int .u64 t.fst, .int .i64 t.vou, .int .i64 t.posts, .slice h.p h.n h.c] ∧ okL 11 u.val w.heap.size 0) := Lib.hid (fun u => by
                    have hr := (u.prop.block _ (block_lt HR4.out)).trans HR4.out
                    exact row_loT 11 hr rfl rfl)
                  have k4 := fun u => (HLF.out u).1; have k5 := fun u => (HLF.out u).2
                  have C1 := Lib.hid (fun u : Later wr => HV.out _ (HUB.out u)); have C2 := Lib.hid (fun u : Later wr => HRS.out _ (HUB.out u)); have C3 := Lib.hid (fun u : Later wr => HV0.out _ (HUB.out u)); have C4 := Lib.hid (fun u : Later wr => HTX.out _ (HUB.out u)); have C5 := Lib.hid (fun u : Later wr => HRT.out _ (HUB.out u)); have C6 := Lib.hid (fun u : Later wr => HLI.out _ (HUB.out u)); have C7 := Lib.hid (fun u : Later wr => HKN.out u.val)
                  refine wp_region_later (by kernel_rfl) (by kernel_rfl) ?_
                  repeat (go_big_quiet_step (first | (go_at_call 33; first | with_reducible exact later_call (C1.out _) | with_reducible exact later_call (C3.out _)) | (go_at_call 38; exact later_call (C2.out _)) | (go_at_call 34; exact later_call (C4.out _)) | (go_at_call 39; exact later_call (C5.out _)) | (go_at_call 35; exact later_call (C6.out _)) | (go_at_call 12; exact later_call (C7.out _))))
                  refine wpQuiet_nil ?_
                  rintro w9 ⟨u, rfl⟩
                  have HFIN := Lib.hid (HUB.out u)
                  clear k4 k5
                  generalize u.val = w9 at *
                  go_wp2_with fail
                  go_ret
                  exact ⟨rfl, HFIN.out⟩
  · have hor : mu = true ∨ (mu = false ∧ 20 < n) := by cases mu <;> simp_all
    clear hgo ts hl
    rcases hor with rfl | ⟨rfl, h70⟩
    all_goals
      go_enter Try.func9, Try.ntmps9
      go_wp2_with (first | (go_at_call 11; (with_reducible refine (HM.out _ HB.out).mono ?_); rintro e wn ⟨rfl, hbn⟩; have HB := Lib.hid (HB.out.trans (hbn.mono HB.out.size)); have HR := Lib.hid ((hbn.block _ (block_lt HR.out)).trans HR.out); obtain ⟨f1, f2⟩ := row_loT 11 HR.out rfl rfl; clear hbn) | (go_at_call 12; (with_reducible refine (HKN.out _).mono ?_); rintro e wn ⟨rfl, hbn⟩; have HB := Lib.hid (HB.out.trans (hbn.mono HB.out.size)); have HR := Lib.hid ((hbn.block _ (block_lt HR.out)).trans HR.out); obtain ⟨f1, f2⟩ := row_loT 11 HR.out rfl rfl; clear hbn))
      go_ret
      exact ⟨rfl, HB.out⟩

section
variable {H : Type} {enc : TypeId × Value → H} {W : World} {held : Bool}
set_option maxRecDepth 10000 in
theorem open_stats {r : Reach} {b0 : Nat} {v : Value} {d : DataW H} {ps : List MemPlace} (hv : Value.okWide Try.prog W r b0 49 v) (h : DataW.Trod enc Try.prog W 0 (fun _ => true) held 49 v d ps) : ∃ (l : List Int) (p : Option Addr) (n cap : Nat), v = .slice p n cap ∧ LS stC 1 W (.slice p n cap) l := by
  obtain ⟨fuel, x, hf⟩ := open_top Try.underlying49 hv h
  obtain ⟨l, h1, -⟩ := open_recs (n := 4) (ks := [.i64]) (fun y : Int => True) (fun zs hz => by
    obtain ⟨z0, r0, rfl, w0, h⟩ := hz.consT
    obtain rfl := h.nilT
    exact ⟨z0, rfl, trivial⟩) Try.underlying49 (by kernel_rfl) (by kernel_rfl) (by decide) hf
  obtain ⟨p, cap, rfl⟩ := h1.shape
  exact ⟨l, p, _, cap, rfl, h1⟩
end
set_option maxRecDepth 100000 in
theorem lifted (os : Os) (started : os.Started) (H : Type) (enc : TypeId × Value → H) :
    ReturnsInHanded {} Try.checked os 9 .any (Rows.ticketTellsSpec.pre6 enc Try.prog Try.f9 Rows.ticketTellsRow.domain false) (Rows.ticketTellsSpec.post enc Try.prog Try.f9 false true false false) := by
  refine returnsInHanded_of_change (C := Try.checked) own started (by kernel_rfl) Try.func9
    (ChangeSpec.witness6 (enc := enc) (C := Try.checked) false ⟨#[], #[.agg #[.int .u64 0, .string ⟨#[]⟩, .int .i64 0, .slice none 0 0, .slice none 0 0, .int .u64 0, .int .u64 0, .int .u64 0, .int .i64 0, .int .i64 0, .slice none 0 0], .slice none 0 0, .int .i64 0], []⟩ 8 (by kernel_rfl) (by kernel_rfl) (by kernel_rfl) (by kernel_rfl)) ?_
  intro W base args ds gs before hval0 hW hcnd _
  have hval : ∀ (j : Nat) t v, Try.f9.params[j]? = some t → args[j]? = some v → Value.okWide Try.prog W .any base t v := hval0
  have hW' := hW
  obtain ⟨p, q, hA0, hV, rfl, hfz, hnd⟩ := hW
  have hA : DataW.TrodAll enc Try.prog W 0 (fun _ => true) true Try.f9.params.toList args.toList ds p := hA0
  rw [Try.params9] at hA hval
  obtain ⟨v0, vs0, d0, ds0, p0, q0, hargs, rfl, rfl, h0, r0⟩ := trodAll_cons hA
  obtain ⟨v1, vs1, d1, ds1, p1, q1, rfl, rfl, rfl, h1, r1⟩ := trodAll_cons r0
  obtain ⟨v2, vs2, d2, ds2, p2, q2, rfl, rfl, rfl, h2, r2⟩ := trodAll_cons r1
  obtain ⟨rfl, rfl, rfl⟩ := trodAll_nil r2
  obtain rfl : args = #[v0, v1, v2] := by cases args; simp_all
  obtain ⟨t, c, x, h, rfl, hts⟩ := open_ticket (hval 0 _ v0 rfl rfl) h0
  obtain ⟨l, q', n, cap, rfl, hst⟩ := open_stats (hval 1 _ v1 rfl rfl) h1
  obtain ⟨day, rfl, rfl, rfl, wday⟩ := open_int Try.underlying3 (hval 2 3 v2 rfl rfl) h2
  clear hA0 hval0
  refine (walk t c x h l q' n cap day W hts hst).mono fun e W' ⟨he, hg⟩ => ?_
  subst he
  exact ⟨_, rfl, post_law laidOut rfl hW' ⟨rfl, rfl, rfl⟩ (by kernel_rfl) hg Try.underlying4 rfl⟩

theorem proved : Rows.TicketTellsSaid :=
  OpenClaim.holds_of_wide 9 Try.f9 rfl rfl rfl rfl rfl rfl rfl ⟨rfl, rfl, rfl, rfl, rfl⟩ rfl rfl rfl rfl rfl (by kernel_rfl) Try.func9 (by kernel_rfl)
    (of_decide_eq_true (by kernel_rfl)) (by unfold Func.isWrapper; first | (rw [if_pos (by decide +kernel)]; kernel_rfl) | (rw [if_neg (by decide +kernel)]; exact ⟨rfl, rfl⟩))
    (fun os started H enc _ => lifted os started H enc)
#print axioms proved
end Go.Proofs.Ytmadkfahkbdibaa.ticketTells
