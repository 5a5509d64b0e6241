/- Plain words: some coupons of a ticket are changed (desk.change; the reference's set). Tools: two operations of a drawn region that may come up in either order; a box that is made beside what a call makes. The plain law of last statuses: a change keeps a coupon that came to one; a history comes to one at most once for a coupon. What a law's round works on: a ticket in a box that takes others. -/
import Derived.Test.YtadabjkhiaidcaaDsl16
import Derived.Test.YtadabjkhiaidcaaDsl3
import Derived.Test.YtadabjkhiaidcaaDsl34

section
set_option linter.unusedVariables false
set_option linter.unusedSimpArgs false
namespace Go.Proofs.Ytadabjkhiaidcaa

namespace Dk
/-- the coupons of a selection, changed one by one: the ticket, an error -/
def chgN (sel : Int → Cpn → Bool) (on tq wi : Int) : List Cpn → Nat → Tk → Tk × Int
  | [], _, o => (o, 0)
  | c :: r, k, o => if sel ((k : Int) + 1) c = true then (if Tkt.errC o ((k : Int) + 1) on tq wi = 0 then chgN sel on tq wi r (k + 1) (Tkt.chg o ((k : Int) + 1) on tq wi) else (Tkt.zTk, Tkt.errC o ((k : Int) + 1) on tq wi)) else chgN sel on tq wi r (k + 1) o
/-- room that a status asks for in a history -/
def needH (s : Int) : Int := if s = 2 ∨ s = 9 then 2 else if s = 1 ∨ s = 3 ∨ s = 8 then 1 else 0
def roomN : List Cpn → Int
  | [] => 0
  | c :: r => needH c.st + roomN r
def keptB (t : Tk) : Bool := decide ((t.hs.length : Int) + roomN t.cs ≤ 60)
def chgD (sel : Int → Cpn → Bool) (on tq wi : Int) (t : Tk) : Tk × Int :=
  if (chgN sel on tq wi t.cs 0 t).2 = 0 then (if keptB (chgN sel on tq wi t.cs 0 t).1 = true then ((chgN sel on tq wi t.cs 0 t).1, 0) else (Tkt.zTk, 8)) else (Tkt.zTk, (chgN sel on tq wi t.cs 0 t).2)
/-- the i-th coupon of a ticket has become something -/
def setK (on tq ho nx : Int) (k : Nat) (c : Cpn) (o : Tk) : Tk := ⟨o.num, o.loc, o.iss, o.cs.set k ⟨c.fl, c.dy, c.va, tq, ho, nx⟩, o.ts, o.prev, o.org, o.fst, o.vou, o.posts, o.hs ++ [⟨on, (k : Int) + 1, c.st, tq⟩]⟩
def setN (sel : Int → Cpn → Bool) (on tq ho nx : Int) : List Cpn → Nat → Tk → Tk
  | [], _, o => o
  | c :: r, k, o => setN sel on tq ho nx r (k + 1) (if sel ((k : Int) + 1) c = true then setK on tq ho nx k c o else o)
def setT (sel : Int → Cpn → Bool) (on tq ho nx : Int) (t : Tk) : Tk := setN sel on tq ho nx t.cs 0 t

theorem needH_pos (s : Int) : 0 ≤ needH s ∧ needH s ≤ 2 := by
  unfold needH
  split
  · omega
  · split <;> omega
theorem roomN_pos : ∀ cs : List Cpn, 0 ≤ roomN cs ∧ roomN cs ≤ 2 * cs.length
  | [] => by simp [roomN]
  | c :: r => by
    have h1 := needH_pos c.st
    have h2 := roomN_pos r
    unfold roomN
    rw [List.length_cons]
    omega
theorem setN_hs (sel : Int → Cpn → Bool) (on tq ho nx : Int) : ∀ (r : List Cpn) (k : Nat) (o : Tk), o.hs.length ≤ (setN sel on tq ho nx r k o).hs.length
  | [], _, _ => Nat.le_refl _
  | c :: r, k, o => by
    unfold setN
    refine Nat.le_trans ?_ (setN_hs sel on tq ho nx r (k + 1) _)
    split
    · simp [setK]
    · exact Nat.le_refl _
theorem lastD_chg {t : Tk} {k : Nat} {y : Cpn} {on tq wi : Int} (hy : t.cs[k]? = some y) : Tkt.lastD (Tkt.chg t ((k : Int) + 1) on tq wi) = on := by
  rw [Tkt.chg_ok hy]
  unfold Tkt.lastD
  simp
theorem chgN_set (sel : Int → Cpn → Bool) (on tq wi ho nx num : Int) (hon : on ≤ 1000000) (hf : Tkt.withB num tq wi = true) (hho : ho = if tq = 9 then wi else 0) (hnx : nx = if tq = 5 then wi else 0) :
    ∀ (r : List Cpn) (k : Nat) (o : Tk), Tkt.mayB o = true → o.num = num → o.cs.drop k = r → Tkt.lastD o ≤ on → (∀ (j : Nat) (c : Cpn), r[j]? = some c → sel (((k + j : Nat) : Int) + 1) c = true → Tkt.leadsB c.st tq = true) →
      chgN sel on tq wi r k o = (setN sel on tq ho nx r k o, 0) ∨ (chgN sel on tq wi r k o = (Tkt.zTk, 8) ∧ 60 < (setN sel on tq ho nx r k o).hs.length)
  | [], k, o, hm, hn, hd, hl, hs => .inl rfl
  | c :: r, k, o, hm, hn, hd, hl, hs => by
    have hc : o.cs[k]? = some c := by
      have := congrArg (fun l => l[0]?) hd
      simpa using this
    have hdr : o.cs.drop (k + 1) = r := by
      have := congrArg (fun l => l.drop 1) hd
      simpa [List.drop_drop] using this
    have hs' : ∀ (j : Nat) (y : Cpn), r[j]? = some y → sel (((k + 1 + j : Nat) : Int) + 1) y = true → Tkt.leadsB y.st tq = true := fun j y hy hq => hs (j + 1) y (by simpa using hy) (by rw [show k + (j + 1) = k + 1 + j by omega]; exact hq)
    unfold chgN setN
    by_cases hsel : sel ((k : Int) + 1) c = true
    · rw [if_pos hsel, if_pos hsel]
      have hld := hs 0 c rfl (by simpa using hsel)
      have he := Tkt.errC_ok (on := on) (tq := tq) (wi := wi) hm hc (by rw [hn]; exact hf)
      rw [if_pos hld, if_pos ⟨hl, hon⟩] at he
      by_cases h60 : o.hs.length = 60
      · rw [if_pos h60] at he
        rw [he, if_neg (by decide)]
        refine .inr ⟨rfl, ?_⟩
        refine Nat.lt_of_lt_of_le ?_ (setN_hs sel on tq ho nx r (k + 1) _)
        simp [setK, h60]
      · rw [if_neg h60] at he
        rw [if_pos he]
        obtain ⟨k', y', hk', hdone⟩ := Tkt.done_of he
        obtain rfl : k' = k := by omega
        have hmy := Tkt.may_chg hdone
        have heq : Tkt.chg o ((k' : Int) + 1) on tq wi = setK on tq ho nx k' c o := by
          rw [Tkt.chg_ok hc, hho, hnx]
          rfl
        have hla := lastD_chg (on := on) (tq := tq) (wi := wi) hc
        rw [heq] at hmy hla ⊢
        refine chgN_set sel on tq wi ho nx num hon hf hho hnx r (k' + 1) (setK on tq ho nx k' c o) hmy hn ?_ (by rw [hla]; exact Int.le_refl _) hs'
        show (o.cs.set k' _).drop (k' + 1) = r
        rw [List.drop_set_of_lt (by omega), hdr]
    · rw [if_neg hsel, if_neg hsel]
      exact chgN_set sel on tq wi ho nx num hon hf hho hnx r (k + 1) o hm hn hdr hl hs'
theorem chgD_set {sel : Int → Cpn → Bool} {on tq wi ho nx : Int} {t : Tk} (hm : Tkt.mayB t = true) (hl : Tkt.lastD t ≤ on) (hon : on ≤ 1000000) (hf : Tkt.withB t.num tq wi = true) (hho : ho = if tq = 9 then wi else 0) (hnx : nx = if tq = 5 then wi else 0)
    (hs : ∀ (j : Nat) (c : Cpn), t.cs[j]? = some c → sel ((j : Int) + 1) c = true → Tkt.leadsB c.st tq = true) :
    chgD sel on tq wi t = if keptB (setT sel on tq ho nx t) = true then (setT sel on tq ho nx t, 0) else (Tkt.zTk, 8) := by
  have h := chgN_set sel on tq wi ho nx t.num hon hf hho hnx t.cs 0 t hm rfl rfl hl (fun j c hj hq => hs j c hj (by simpa using hq))
  unfold chgD setT
  rcases h with h | ⟨h, hlen⟩
  · rw [h, if_pos rfl]
  · rw [h, if_neg (by decide), if_neg]
    unfold keptB
    have := roomN_pos (setN sel on tq ho nx t.cs 0 t).cs
    simp only [decide_eq_true_eq]
    omega
end Dk
end Go.Proofs.Ytadabjkhiaidcaa
end

section
set_option linter.unusedVariables false
set_option linter.unusedSimpArgs false
namespace Go.Proofs.Ytadabjkhiaidcaa
open Go.ChangeShapes Go.WideShapes Go.ChangeAt Go.RowKit Go.Deep

section
variable {P : Program} {ops : Array Oper} {Q : Exit → Act → World → Prop} {md : Region.Mode} {C : World → Prop} {s0 : Nat}
end
theorem Off.of_row {w : World} {B g : Nat} {t : Tk} {c x h : Sl} {n1 n2 n3 m1 m2 m3 : Nat} {xs ys zs : List Value} {cs : Array Value} {fr : Nat × Nat} (h1 : w.ownsRow B 37 n1 (.slice c.p c.n c.c) m1 xs) (h2 : w.ownsRow B 56 n2 (.slice x.p x.n x.c) m2 ys) (h3 : w.ownsRow B 96 n3 (.slice h.p h.n h.c) m3 zs) (hg : w.heap[g]? = some (.cells cs 45 fr)) : Off g t c x h :=
  ⟨fun _ => own_neT h1 hg (by decide), fun _ => own_neT h2 hg (by decide), fun _ => own_neT h3 hg (by decide)⟩
theorem below_put {w Y : World} {g : Nat} (hb : Below w.heap.size w Y) (hg : w.heap.size ≤ g) (cs : List Value) : Below w.heap.size w (Y.setCells g 0 cs) :=
  Only.below hb hg hb.size ((Only.refl g Y).setCells 0 cs)
section
variable {P : Program} {H : Type} {enc : TypeId × Value → H} {W : World} {held : Bool}
/-- a slice handed in as an argument -/
theorem open_top {r : Reach} {b0 : Nat} {t e : TypeId} {v : Value} {d : DataW H} {ps : List MemPlace} (hu : P.underlying t = some (.slice e)) (hv : Value.okWide P W r b0 t v) (h : DataW.Trod enc P W 0 (fun _ => true) held t v d ps) : ∃ fuel x, DataW.trod enc P W 0 (fun _ => true) held fuel t [v] = some x := by
  have hcs : v.cells = #[v] := by
    simp only [Value.okWide, hu] at hv
    cases v <;> first | rfl | simp [Cell.okWide, Cell.ok] at hv
  obtain ⟨fuel, hf⟩ := h
  rw [hcs] at hf
  exact ⟨fuel, _, hf⟩
end
section
variable {H : Type} {enc : TypeId × Value → H} {W : World} {held : Bool}
end
end Go.Proofs.Ytadabjkhiaidcaa
end

section
set_option linter.unusedVariables false
set_option linter.unusedSimpArgs false
namespace Go.Proofs.Ytadabjkhiaidcaa
open Go.RowKit

namespace Tkt
theorem lead_last {a b : Int} (h : leadsB a b = true) : lastB a = false := by
  unfold leadsB at h
  unfold lastB
  simp only [Bool.and_eq_true, decide_eq_true_eq] at h
  by_cases h0 : bitsI a = 0
  · rw [h0] at h
    simp at h
  · simp [h0]
/-- what a step may do to a ticket: coupons that came to a last status stay -/
structure Keeps (t u : Tk) : Prop where
  len : u.cs.length = t.cs.length
  at_ : ∀ (j : Nat) (z : Cpn), t.cs[j]? = some z → lastB z.st = true → u.cs[j]? = some z
theorem Keeps.rfl {t : Tk} : Keeps t t := ⟨Eq.refl _, fun _ _ h _ => h⟩
theorem keeps_chg {t : Tk} {k : Nat} {y : Cpn} {on tq wi : Int} (d : Done t k y on tq wi) : Keeps t (chg t ((k : Int) + 1) on tq wi) := by
  rw [chg_ok d.at_]
  refine ⟨List.length_set, fun j z hz hl => ?_⟩
  by_cases hj : k = j
  · subst hj
    rw [d.at_] at hz
    injection hz with hz
    subst hz
    rw [lead_last d.leads] at hl
    cases hl
  · simp only
    rw [List.getElem?_set_ne hj]
    exact hz
def nowL (n : Nat) (iss : Int) (hs : List Evt) : List Int := match toldE 0 n iss hs with | some s => s.now | none => []
/-- how often a coupon came to a last status -/
def endsI (n : Nat) (iss : Int) (k : Nat) (hs : List Evt) : Int := if lastB ((nowL n iss hs).getD k 0) = true then 1 else 0
theorem nowL_of {n : Nat} {iss : Int} {hs : List Evt} {s : Told} (h : toldE 0 n iss hs = some s) : nowL n iss hs = s.now := by
  unfold nowL
  rw [h]
theorem ends_nil (n : Nat) (iss : Int) (k : Nat) : endsI n iss k [] = 0 := by
  unfold endsI
  rw [nowL_of (s := told0 n iss) (Eq.refl _)]
  refine if_neg ?_
  unfold told0
  rw [List.getD_eq_getElem?_getD, List.getElem?_replicate]
  split <;> decide
theorem told_step {u : Int} {n : Nat} {iss : Int} {hs : List Evt} {s : Told} (h : toldE u n iss hs = some s) {i : Nat} {x : Evt} (hx : hs[i]? = some x) : ∃ si, toldE u n iss (hs.take i) = some si ∧ evOk si x = true ∧ toldE u n iss (hs.take (i + 1)) = some (evDo u si x) := by
  have hi : i < hs.length := (List.getElem?_eq_some_iff.1 hx).1
  have hxe : hs[i] = x := (List.getElem?_eq_some_iff.1 hx).2
  have ht : hs.take (i + 1) = hs.take i ++ [x] := by rw [List.take_succ_eq_append_getElem hi, hxe]
  cases h1 : toldE u n iss (hs.take (i + 1)) with
  | none => rw [toldE_none _ h1] at h; cases h
  | some s1 =>
    rw [ht, toldE_snoc] at h1
    obtain ⟨si, h0, hk, rfl⟩ := stepE_len h1
    exact ⟨si, h0, hk, Eq.refl _⟩
theorem ends_step {n : Nat} {iss : Int} {hs : List Evt} {s : Told} (h : toldE 0 n iss hs = some s) {i k : Nat} {x : Evt} (hx : hs[i]? = some x) :
    (x.co = (k : Int) + 1 → endsI n iss k (hs.take i) = 0 ∧ endsI n iss k (hs.take (i + 1)) = if lastB x.to = true then 1 else 0) ∧ (x.co ≠ (k : Int) + 1 → endsI n iss k (hs.take (i + 1)) = endsI n iss k (hs.take i)) := by
  obtain ⟨si, h0, hk, h1⟩ := told_step h hx
  unfold endsI
  rw [nowL_of h0, nowL_of h1]
  unfold evOk at hk
  simp only [Bool.and_eq_true, decide_eq_true_eq] at hk
  obtain ⟨⟨⟨⟨⟨c1, c2⟩, -⟩, -⟩, c3⟩, c4⟩ := hk
  refine ⟨fun hc => ?_, fun hc => ?_⟩
  · have e : x.co.toNat - 1 = k := by omega
    rw [e] at c3
    refine ⟨?_, ?_⟩
    · rw [← c3, lead_last c4]; rfl
    · have : (evDo 0 si x).now.getD k 0 = x.to := by
        simp only [evDo, e]
        rw [List.getD_eq_getElem?_getD, List.getElem?_set_self (by omega)]; rfl
      rw [this]
  · have : (evDo 0 si x).now.getD k 0 = si.now.getD k 0 := by
      simp only [evDo]
      rw [List.getD_eq_getElem?_getD, List.getElem?_set_ne (by omega), ← List.getD_eq_getElem?_getD]
    rw [this]
theorem ends_all {t : Tk} (hm : mayB t = true) {k : Nat} {z : Cpn} (hz : t.cs[k]? = some z) : endsI t.cs.length t.iss k t.hs = if lastB z.st = true then 1 else 0 := by
  unfold mayB at hm
  simp only [Bool.and_eq_true] at hm
  obtain ⟨s, hs, hn⟩ := hist_some hm.2
  have : (nowL t.cs.length t.iss t.hs).getD k 0 = z.st := by
    rw [nowL_of hs, hn, List.getD_eq_getElem?_getD, List.getElem?_map, hz]
    rfl
  unfold endsI
  rw [this]
theorem told_may {t : Tk} (hm : mayB t = true) : ∃ s, toldE 0 t.cs.length t.iss t.hs = some s := by
  unfold mayB at hm
  simp only [Bool.and_eq_true] at hm
  obtain ⟨s, hs, -⟩ := hist_some hm.2
  exact ⟨s, hs⟩
end Tkt
end Go.Proofs.Ytadabjkhiaidcaa
end

section
set_option linter.unusedVariables false
set_option linter.unusedSimpArgs false
namespace Go.Proofs.Ytadabjkhiaidcaa
open Go.ChangeShapes Go.WideShapes Go.ChangeAt Go.RowKit Go.Deep

/-- what a round works on: the ticket's box g, and the ticket in it -/
structure CAt (w W : World) (g : Nat) (t : Tk) (c x h : Sl) : Prop where
  b : Below w.heap.size w W
  r : W.heap[g]? = some (.cells #[.int .u64 t.num, .string t.loc, .int .i64 t.iss, .slice c.p c.n c.c, .slice x.p x.n x.c, .int .u64 t.prev, .int .u64 t.org, .int .u64 t.fst, .int .i64 t.vou, .int .i64 t.posts, .slice h.p h.n h.c] 45 (0, 0))
  s : TS W t c x h
  o : Off g t c x h
  l : t.cs.length ≤ 20 ∧ t.ts.length ≤ 20 ∧ t.hs.length ≤ 100
theorem CAt.below {w W W' : World} {g : Nat} {t : Tk} {c x h : Sl} (a : CAt w W g t c x h) (hb : Below W.heap.size W W') : CAt w W' g t c x h :=
  ⟨a.b.trans (hb.mono a.b.size), (hb.block _ (block_lt a.r)).trans a.r, a.s.below hb, a.o, a.l⟩
/-- the box takes another ticket, whose lists lie elsewhere -/
theorem CAt.turn {w W : World} {g : Nat} {t t' : Tk} {c x h c' x' h' : Sl} {vs : List Value} (a : CAt w W g t c x h) (hg : w.heap.size ≤ g) (hv : vs = [.int .u64 t'.num, .string t'.loc, .int .i64 t'.iss, .slice c'.p c'.n c'.c, .slice x'.p x'.n x'.c, .int .u64 t'.prev, .int .u64 t'.org, .int .u64 t'.fst, .int .i64 t'.vou, .int .i64 t'.posts, .slice h'.p h'.n h'.c]) (s : TS W t' c' x' h') (o : Off g t' c' x' h') (l : t'.cs.length ≤ 20 ∧ t'.ts.length ≤ 20 ∧ t'.hs.length ≤ 100) : CAt w (W.setCells g 0 vs) g t' c' x' h' := by
  subst hv
  exact ⟨Only.below a.b hg a.b.size ((Only.refl g W).setCells 0 _), setCells_rowT (zs := [.int .u64 t.num, .string t.loc, .int .i64 t.iss, .slice c.p c.n c.c, .slice x.p x.n x.c, .int .u64 t.prev, .int .u64 t.org, .int .u64 t.fst, .int .i64 t.vou, .int .i64 t.posts, .slice h.p h.n h.c]) a.r rfl, s.only o ((Only.refl g W).setCells 0 _), o, l⟩
/-- what a change that is done makes of it stays within the bounds -/
theorem lens_chg {t : Tk} {k : Nat} {y : Cpn} {on tq wi : Int} (d : Tkt.Done t k y on tq wi) : (Tkt.chg t ((k : Int) + 1) on tq wi).cs.length ≤ 20 ∧ (Tkt.chg t ((k : Int) + 1) on tq wi).ts.length ≤ 20 ∧ (Tkt.chg t ((k : Int) + 1) on tq wi).hs.length ≤ 100 := by
  have := Tkt.mayB_lens (Tkt.may_chg d)
  omega
theorem zTk_wf : Tkt.zTk.wf := ⟨⟨by decide, by decide⟩, by decide, ⟨by decide, by decide⟩, by simp [Tkt.zTk], by simp [Tkt.zTk], ⟨by decide, by decide⟩, ⟨by decide, by decide⟩, ⟨by decide, by decide⟩, ⟨by decide, by decide⟩, ⟨by decide, by decide⟩, by simp [Tkt.zTk]⟩
theorem wf_chgT {t : Tk} {co on tq wi : Int} (hw : t.wf) (ho : I64 on) (hwi : U64 wi) : (Tkt.chgT t co on tq wi).wf := by
  unfold Tkt.chgT
  split
  · rename_i h0
    obtain ⟨k, y, rfl, d⟩ := Tkt.done_of h0
    exact Tkt.wf_chg d hw ho hwi
  · exact zTk_wf
theorem chgT_ok {t t' : Tk} {co on tq wi : Int} (h0 : Tkt.errC t co on tq wi = 0) (ht : Tkt.chgT t co on tq wi = t') : Tkt.mayB t' = true ∧ t'.cs.length ≤ 20 ∧ t'.ts.length ≤ 20 ∧ t'.hs.length ≤ 100 := by
  subst ht
  unfold Tkt.chgT
  rw [if_pos h0]
  obtain ⟨k, y, rfl, d⟩ := Tkt.done_of h0
  exact ⟨Tkt.may_chg d, lens_chg d⟩
end Go.Proofs.Ytadabjkhiaidcaa
end
