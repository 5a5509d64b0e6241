/- Contract: a ticket's bytes (ticket.Bytes). The plain law of a ticket's change: what a change makes of a ticket that may be, may be. Plain words: what a ticket's coupons and taxes are worth, which are live, what they were at a day. -/
import Derived.Test.YtadabjkhiaidcaaDsl15

section
set_option linter.unusedVariables false
set_option linter.unusedSimpArgs false
namespace Go.Proofs.Ytadabjkhiaidcaa
open Go.RowKit

namespace Tkt
theorem hist_fits {u : Int} {n : Nat} {iss : Int} (hs : List Evt) {s : Told} (h : toldE u n iss hs = some s) : (∀ z ∈ s.now, 1 ≤ z ∧ z ≤ 9) ∧ s.now.length = n ∧ iss ≤ s.at_ ∧ ∀ x ∈ hs, iss ≤ x.dy ∧ x.dy ≤ 1000000 ∧ 1 ≤ x.co ∧ x.co ≤ n ∧ 0 ≤ x.fr ∧ x.fr ≤ 9 ∧ 1 ≤ x.to ∧ x.to ≤ 9 := by
  have key : ∀ (l : List Evt) (s : Told), l.foldl (stepE u) (some (told0 n iss)) = some s → (∀ z ∈ s.now, 1 ≤ z ∧ z ≤ 9) ∧ s.now.length = n ∧ iss ≤ s.at_ ∧ ∀ x ∈ l, iss ≤ x.dy ∧ x.dy ≤ 1000000 ∧ 1 ≤ x.co ∧ x.co ≤ n ∧ 0 ≤ x.fr ∧ x.fr ≤ 9 ∧ 1 ≤ x.to ∧ x.to ≤ 9 := by
    intro l
    refine Wire.snocRec (M := fun l => ∀ (s : Told), l.foldl (stepE u) (some (told0 n iss)) = some s → (∀ z ∈ s.now, 1 ≤ z ∧ z ≤ 9) ∧ s.now.length = n ∧ iss ≤ s.at_ ∧ ∀ x ∈ l, iss ≤ x.dy ∧ x.dy ≤ 1000000 ∧ 1 ≤ x.co ∧ x.co ≤ n ∧ 0 ≤ x.fr ∧ x.fr ≤ 9 ∧ 1 ≤ x.to ∧ x.to ≤ 9) ?_ ?_ l
    · intro s h
      injection h with h
      subst h
      refine ⟨fun z hz => ?_, by simp [told0], Int.le_refl _, fun x hx => by cases hx⟩
      have := List.eq_of_mem_replicate hz
      omega
    · intro l x ih s h
      rw [List.foldl_append] at h
      obtain ⟨s0, h0, hk, rfl⟩ := stepE_len h
      obtain ⟨i1, i2, i3, i4⟩ := ih s0 h0
      unfold evOk leadsB stB at hk
      simp only [Bool.and_eq_true, decide_eq_true_eq] at hk
      obtain ⟨⟨⟨⟨⟨k1, k2⟩, k3⟩, k4⟩, k5⟩, ⟨k6, k7⟩, k8⟩ := hk
      have hlt : x.co.toNat - 1 < s0.now.length := by omega
      have hfr : 1 ≤ x.fr ∧ x.fr ≤ 9 := by
        rw [k5, List.getD_eq_getElem?_getD, List.getElem?_eq_getElem hlt]
        exact i1 _ (List.getElem_mem hlt)
      refine ⟨fun z hz => ?_, by simp [evDo, i2], by simp only [evDo]; omega, fun y hy => ?_⟩
      · rcases List.mem_or_eq_of_mem_set hz with hz | rfl
        · exact i1 z hz
        · exact ⟨k6, k7⟩
      · rcases List.mem_append.1 hy with hy | hy
        · exact i4 y hy
        · obtain rfl := List.mem_singleton.1 hy
          refine ⟨by omega, k4, k1, by omega, by omega, by omega, k6, k7⟩
  exact key hs s h
theorem tax_fits : ∀ {l : List Txx} {m : Int}, 0 ≤ m → taxB m l = true → ∀ c ∈ l, 0 ≤ c.cd ∧ c.cd ≤ 99 ∧ 0 ≤ c.am ∧ c.am ≤ 1000000000000 := by
  intro l
  induction l with
  | nil => intro m _ _ c hc; cases hc
  | cons x l ih =>
    intro m hm h c hc
    unfold taxB someB at h
    simp only [Bool.and_eq_true, decide_eq_true_eq] at h
    obtain ⟨⟨⟨h1, h2⟩, h3, h4⟩, h5⟩ := h
    rcases List.mem_cons.1 hc with rfl | hc
    · omega
    · exact ih (by omega) h5 c hc
theorem fits_of {t : Tk} (h : mayB t = true) (hw : t.wf) : Fits t := by
  unfold mayB at h
  simp only [Bool.and_eq_true, List.all_eq_true] at h
  obtain ⟨⟨⟨⟨hh, hl⟩, hcs⟩, hts⟩, hhs⟩ := h
  unfold headB dayB at hh
  simp only [Bool.and_eq_true, decide_eq_true_eq] at hh
  obtain ⟨⟨⟨⟨⟨⟨⟨⟨-, hloc⟩, hi1, hi2⟩, -⟩, -⟩, hv1⟩, hv2⟩, hp1⟩, hp2⟩ := hh
  unfold lensB at hl
  simp only [Bool.and_eq_true, decide_eq_true_eq] at hl
  have hl6 : t.loc.size ≤ 1000 := by
    unfold Num.loc at hloc
    simp only [Bool.and_eq_true, decide_eq_true_eq] at hloc
    have h6 := hloc.2
    have : t.loc.data.toList.length = t.loc.size := by show t.loc.data.toList.length = t.loc.data.size; simp
    omega
  refine ⟨⟨hw.num.1, by have := hw.num.2; omega⟩, hl6, ⟨hi1, by omega⟩, ⟨hw.prev.1, by have := hw.prev.2; omega⟩, ⟨hw.org.1, by have := hw.org.2; omega⟩, ⟨hw.fst.1, by have := hw.fst.2; omega⟩, ⟨hv1, by omega⟩, ⟨hp1, by omega⟩, by omega, by omega, by omega, ?_, ?_, ?_⟩
  · intro c hc
    have hcb := hcs c hc
    unfold cpnB dayB someB stB at hcb
    simp only [Bool.and_eq_true, decide_eq_true_eq] at hcb
    obtain ⟨⟨⟨⟨⟨⟨k1, k2⟩, k3, k4⟩, k5, k6⟩, k7, k8⟩, k9⟩, k10⟩ := hcb
    have hho : 0 ≤ c.ho ∧ c.ho ≤ 1000 := by
      split at k9
      · unfold holdB at k9; simp at k9; omega
      · simp at k9; omega
    have hnx := (hw.cs c hc).2.2.2.2.2
    exact ⟨⟨by omega, by omega⟩, ⟨k3, by omega⟩, ⟨k5, by omega⟩, ⟨by omega, by omega⟩, ⟨hho.1, by omega⟩, ⟨hnx.1, by have := hnx.2; omega⟩⟩
  · intro c hc
    have := tax_fits (by decide) hts c hc
    exact ⟨⟨this.1, by omega⟩, ⟨this.2.2.1, by omega⟩⟩
  · intro c hc
    unfold histB at hhs
    cases ht : toldE 0 t.cs.length t.iss t.hs with
    | none => rw [ht] at hhs; cases hhs
    | some s =>
      have := (hist_fits t.hs ht).2.2.2 c hc
      exact ⟨⟨by omega, by omega⟩, ⟨by omega, by omega⟩, ⟨by omega, by omega⟩, ⟨by omega, by omega⟩⟩
end Tkt

attribute [local go_sem ↓] Tk_execLoad Tk_execStore

attribute [local go_sem] Tk_load Tk_store loL_drew okL_drew there_sc World.there_drew

attribute [local irreducible] Tkt.encT

end Go.Proofs.Ytadabjkhiaidcaa
end

section
set_option linter.unusedVariables false
set_option linter.unusedSimpArgs false
namespace Go.Proofs.Ytadabjkhiaidcaa
open Go.RowKit

namespace Tkt
theorem told_last {u : Int} {n : Nat} {iss : Int} (hs : List Evt) : ∀ s, toldE u n iss hs = some s → s.at_ = (match hs.getLast? with | none => iss | some e => e.dy) := by
  refine Wire.snocRec (M := fun hs => ∀ s, toldE u n iss hs = some s → s.at_ = (match hs.getLast? with | none => iss | some e => e.dy)) ?_ ?_ hs
  · intro s h
    injection h with h
    subst h
    rfl
  · intro l x ih s h
    rw [toldE_snoc] at h
    obtain ⟨s0, h0, hk, rfl⟩ := stepE_len h
    rw [List.getLast?_append]
    rfl
theorem told_lastD {t : Tk} {u : Int} {s : Told} (h : toldE u t.cs.length t.iss t.hs = some s) : s.at_ = lastD t := told_last _ _ h
theorem hist_some {t : Tk} {u : Int} (h : histB u t = true) : ∃ s, toldE u t.cs.length t.iss t.hs = some s ∧ s.now = t.cs.map (·.st) := by
  unfold histB at h
  cases ht : toldE u t.cs.length t.iss t.hs with
  | none => rw [ht] at h; cases h
  | some s => rw [ht] at h; exact ⟨s, rfl, by simpa using h⟩
theorem hist_of {t : Tk} {u : Int} {s : Told} (h : toldE u t.cs.length t.iss t.hs = some s) (hn : s.now = t.cs.map (·.st)) : histB u t = true := by
  unfold histB
  rw [h]
  simpa using hn
/-- a change that is done -/
structure Done (t : Tk) (k : Nat) (y : Cpn) (on tq wi : Int) : Prop where
  may : mayB t = true
  at_ : t.cs[k]? = some y
  fits : withB t.num tq wi = true
  leads : leadsB y.st tq = true
  day : lastD t ≤ on ∧ on ≤ 1000000
  room : t.hs.length ≠ 60
theorem done_of {t : Tk} {co on tq wi : Int} (h : errC t co on tq wi = 0) : ∃ k y, co = ((k : Nat) : Int) + 1 ∧ Done t k y on tq wi := by
  unfold errC at h
  split at h
  · rename_i hc
    obtain ⟨h1, h2, h3, h4⟩ := hc
    split at h
    · cases h
    · rename_i y hy
      refine ⟨co.toNat - 1, y, by omega, ?_⟩
      split at h
      · rename_i hl
        split at h
        · rename_i hd
          split at h
          · cases h
          · rename_i hr
            exact ⟨h1, hy, h4, hl, hd, hr⟩
        · cases h
      · cases h
  · cases h
theorem cpn_chg {num : Int} {y : Cpn} {tq wi : Int} (h : cpnB num y = true) (hf : withB num tq wi = true) (hs : stB tq = true) : cpnB num (chgC y tq wi) = true := by
  unfold cpnB at h ⊢
  unfold chgC
  simp only [Bool.and_eq_true] at h ⊢
  obtain ⟨⟨⟨⟨⟨⟨h1, h2⟩, h3⟩, h4⟩, h5⟩, h6⟩, h7⟩ := h
  refine ⟨⟨⟨⟨⟨⟨h1, h2⟩, h3⟩, h4⟩, hs⟩, ?_⟩, ?_⟩
  · by_cases h9 : tq = 9
    · rw [if_pos h9, if_pos h9]
      rw [withB, if_pos h9] at hf
      exact hf
    · rw [if_neg h9, if_neg h9]; rfl
  · by_cases h5 : tq = 5
    · rw [if_pos h5, if_pos h5]
      rw [withB, if_neg (by omega), if_pos h5] at hf
      exact hf
    · rw [if_neg h5, if_neg h5]; rfl
theorem may_chg {t : Tk} {k : Nat} {y : Cpn} {on tq wi : Int} (d : Done t k y on tq wi) : mayB (chg t ((k : Int) + 1) on tq wi) = true := by
  rw [chg_ok d.at_]
  have hm := d.may
  unfold mayB at hm ⊢
  simp only [Bool.and_eq_true] at hm ⊢
  obtain ⟨⟨⟨⟨hh, hl⟩, hc⟩, ht⟩, hi⟩ := hm
  have hk : k < t.cs.length := (List.getElem?_eq_some_iff.1 d.at_).1
  have hst : stB tq = true := by
    have := d.leads
    unfold leadsB at this
    simp only [Bool.and_eq_true] at this
    exact this.1
  refine ⟨⟨⟨⟨hh, ?_⟩, ?_⟩, ht⟩, ?_⟩
  · unfold lensB at hl ⊢
    simp only [Bool.and_eq_true, decide_eq_true_eq, List.length_set, List.length_append, List.length_singleton] at hl ⊢
    have := d.room
    omega
  · rw [List.all_eq_true] at hc ⊢
    intro c hcm
    rcases List.mem_or_eq_of_mem_set hcm with h | rfl
    · exact hc c h
    · exact cpn_chg (hc y (List.mem_of_getElem? d.at_)) d.fits hst
  · obtain ⟨s, hs, hn⟩ := hist_some hi
    have hlen : s.now.length = t.cs.length := (toldE_len _ hs).1
    have hok : evOk s ⟨on, (k : Int) + 1, y.st, tq⟩ = true := by
      unfold evOk
      simp only [Bool.and_eq_true, decide_eq_true_eq]
      refine ⟨⟨⟨⟨⟨by omega, by omega⟩, by rw [told_lastD hs]; exact d.day.1⟩, d.day.2⟩, ?_⟩, d.leads⟩
      rw [show ((k : Int) + 1).toNat - 1 = k by omega, hn, List.getD_eq_getElem?_getD, List.getElem?_map, d.at_]
      rfl
    refine hist_of (s := evDo 0 s ⟨on, (k : Int) + 1, y.st, tq⟩) ?_ ?_
    · simp only [List.length_set]
      rw [toldE_snoc, hs]
      show (if evOk s _ = true then _ else _) = _
      rw [if_pos hok]
    · show s.now.set (((k : Int) + 1).toNat - 1) tq = _
      rw [show ((k : Int) + 1).toNat - 1 = k by omega, hn, List.map_set]
      rfl
/-- what Change tells is of the shape that its types allow -/
theorem wf_chg {t : Tk} {k : Nat} {y : Cpn} {on tq wi : Int} (d : Done t k y on tq wi) (hw : t.wf) (ho : I64 on) (hwi : U64 wi) : (chg t ((k : Int) + 1) on tq wi).wf := by
  rw [chg_ok d.at_]
  have hst : stB tq = true := by
    have := d.leads
    unfold leadsB at this
    simp only [Bool.and_eq_true] at this
    exact this.1
  have htq : 1 ≤ tq ∧ tq ≤ 9 := by unfold stB at hst; simpa using hst
  have hk : k < t.cs.length := (List.getElem?_eq_some_iff.1 d.at_).1
  have hlen := (mayB_lens d.may).2.1
  have hy := hw.cs y (List.mem_of_getElem? d.at_)
  refine ⟨hw.num, hw.loc, hw.iss, ?_, hw.ts, hw.prev, hw.org, hw.fst, hw.vou, hw.posts, ?_⟩
  · intro c hc
    rcases List.mem_or_eq_of_mem_set hc with h | rfl
    · exact hw.cs c h
    · refine ⟨hy.1, hy.2.1, hy.2.2.1, ⟨by simp only [chgC]; omega, by simp only [chgC]; omega⟩, ?_, ?_⟩
      · unfold chgC
        simp only
        by_cases h9 : tq = 9
        · rw [if_pos h9]
          have := d.fits
          rw [withB, if_pos h9] at this
          unfold holdB at this
          simp at this
          exact ⟨by omega, by omega⟩
        · rw [if_neg h9]; exact ⟨by omega, by omega⟩
      · unfold chgC
        simp only
        by_cases h5 : tq = 5
        · rw [if_pos h5]; exact hwi
        · rw [if_neg h5]; exact ⟨by omega, by omega⟩
  · intro x hx
    rcases List.mem_append.1 hx with hx | hx
    · exact hw.hs x hx
    · obtain rfl := List.mem_singleton.1 hx
      exact ⟨ho, ⟨by simp only; omega, by simp only; omega⟩, hy.2.2.2.1, ⟨by simp only; omega, by simp only; omega⟩⟩
end Tkt
end Go.Proofs.Ytadabjkhiaidcaa
end

section
set_option linter.unusedVariables false
set_option linter.unusedSimpArgs false
namespace Go.Proofs.Ytadabjkhiaidcaa
open Go.RowKit

namespace Tkt
def hitB (l : List Int) (s : Int) : Bool := l.isEmpty || l.contains s
def sumV (l : List Int) : List Cpn → Int
  | [] => 0
  | y :: r => (if hitB l y.st = true then y.va else 0) + sumV l r
def taxI : List Txx → Int
  | [] => 0
  | y :: r => y.am + taxI r
def liveN : List Cpn → Int
  | [] => 0
  | y :: r => (if liveB y.st = true then 1 else 0) + liveN r
def valueI (t : Tk) (l : List Int) : Int := if mayB t = true then sumV l t.cs else 0
def taxesI (t : Tk) : Int := if mayB t = true then taxI t.ts else 0
def liveI (t : Tk) : Int := if mayB t = true then liveN t.cs else 0
theorem sumV_append (l : List Int) : ∀ a b : List Cpn, sumV l (a ++ b) = sumV l a + sumV l b
  | [], b => by simp [sumV]
  | y :: a, b => by simp only [List.cons_append, sumV, sumV_append l a b]; omega
theorem taxI_append : ∀ a b : List Txx, taxI (a ++ b) = taxI a + taxI b
  | [], b => by simp [taxI]
  | y :: a, b => by simp only [List.cons_append, taxI, taxI_append a b]; omega
theorem liveN_append : ∀ a b : List Cpn, liveN (a ++ b) = liveN a + liveN b
  | [], b => by simp [liveN]
  | y :: a, b => by simp only [List.cons_append, liveN, liveN_append a b]; omega
theorem take_snocT {α : Type} {l : List α} {k : Nat} {y : α} (h : l[k]? = some y) : l.take (k + 1) = l.take k ++ [y] := by
  obtain ⟨hk, he⟩ := List.getElem?_eq_some_iff.1 h
  rw [List.take_succ_eq_append_getElem hk, he]
theorem sumV_snoc (l : List Int) {cs : List Cpn} {k : Nat} {y : Cpn} (h : cs[k]? = some y) : sumV l (cs.take (k + 1)) = sumV l (cs.take k) + if hitB l y.st = true then y.va else 0 := by
  rw [take_snocT h, sumV_append]
  simp [sumV]
theorem taxI_snoc {cs : List Txx} {k : Nat} {y : Txx} (h : cs[k]? = some y) : taxI (cs.take (k + 1)) = taxI (cs.take k) + y.am := by
  rw [take_snocT h, taxI_append]
  simp [taxI]
theorem liveN_snoc {cs : List Cpn} {k : Nat} {y : Cpn} (h : cs[k]? = some y) : liveN (cs.take (k + 1)) = liveN (cs.take k) + if liveB y.st = true then 1 else 0 := by
  rw [take_snocT h, liveN_append]
  simp [liveN]
theorem sumV_bound (l : List Int) : ∀ cs : List Cpn, (∀ y ∈ cs, 0 ≤ y.va ∧ y.va ≤ 1000000000000) → 0 ≤ sumV l cs ∧ sumV l cs ≤ 1000000000000 * cs.length
  | [], _ => by simp [sumV]
  | y :: r, h => by
    have h1 := h y (by simp)
    have h2 := sumV_bound l r (fun z hz => h z (by simp [hz]))
    simp only [sumV, List.length_cons]
    split <;> omega
theorem taxI_bound : ∀ cs : List Txx, (∀ y ∈ cs, 0 ≤ y.am ∧ y.am ≤ 1000000000000) → 0 ≤ taxI cs ∧ taxI cs ≤ 1000000000000 * cs.length
  | [], _ => by simp [taxI]
  | y :: r, h => by
    have h1 := h y (by simp)
    have h2 := taxI_bound r (fun z hz => h z (by simp [hz]))
    simp only [taxI, List.length_cons]
    omega
theorem liveN_bound : ∀ cs : List Cpn, 0 ≤ liveN cs ∧ liveN cs ≤ cs.length
  | [] => by simp [liveN]
  | y :: r => by
    have h2 := liveN_bound r
    simp only [liveN, List.length_cons]
    split <;> omega
theorem may_cpn {t : Tk} (hm : mayB t = true) : ∀ y ∈ t.cs, cpnB t.num y = true := by
  unfold mayB at hm
  simp only [Bool.and_eq_true, List.all_eq_true] at hm
  exact hm.1.1.2
theorem may_va {t : Tk} (hm : mayB t = true) : ∀ y ∈ t.cs, 0 ≤ y.va ∧ y.va ≤ 1000000000000 := fun y hy => by
  have := may_cpn hm y hy
  unfold cpnB someB at this
  simp only [Bool.and_eq_true, decide_eq_true_eq] at this
  omega
theorem may_st {t : Tk} (hm : mayB t = true) : ∀ y ∈ t.cs, stB y.st = true := fun y hy => by
  have := may_cpn hm y hy
  unfold cpnB at this
  simp only [Bool.and_eq_true] at this
  exact this.1.1.2
theorem tax_all : ∀ (k : Int) (l : List Txx), taxB k l = true → ∀ y ∈ l, 0 ≤ y.am ∧ y.am ≤ 1000000000000
  | k, [], _ => by simp
  | k, x :: r, h => by
    unfold taxB someB at h
    simp only [Bool.and_eq_true, decide_eq_true_eq] at h
    intro y hy
    rcases List.mem_cons.1 hy with rfl | hy
    · omega
    · exact tax_all _ r h.2 y hy
theorem may_am {t : Tk} (hm : mayB t = true) : ∀ y ∈ t.ts, 0 ≤ y.am ∧ y.am ≤ 1000000000000 := by
  unfold mayB at hm
  simp only [Bool.and_eq_true] at hm
  exact tax_all 1 t.ts hm.1.2
/-- bounds of a sum so far -/
theorem sum_part {t : Tk} (hm : mayB t = true) (l : List Int) (k : Nat) : 0 ≤ sumV l (t.cs.take k) ∧ sumV l (t.cs.take k) ≤ 4000000000000 := by
  have h1 := sumV_bound l (t.cs.take k) (fun y hy => may_va hm y (List.mem_of_mem_take hy))
  have h2 := mayB_lens hm
  have h3 : (t.cs.take k).length ≤ 4 := by rw [List.length_take]; omega
  omega
theorem tax_part {t : Tk} (hm : mayB t = true) (k : Nat) : 0 ≤ taxI (t.ts.take k) ∧ taxI (t.ts.take k) ≤ 4000000000000 := by
  have h1 := taxI_bound (t.ts.take k) (fun y hy => may_am hm y (List.mem_of_mem_take hy))
  have h2 := mayB_lens hm
  have h3 : (t.ts.take k).length ≤ 4 := by rw [List.length_take]; omega
  omega
/-- the sum over all statuses -/
def sumTo (cs : List Cpn) : Nat → Int
  | 0 => 0
  | k + 1 => sumTo cs k + sumV [((k : Int) + 1)] cs
theorem sumTo_cons (y : Cpn) (r : List Cpn) : ∀ k : Nat, sumTo (y :: r) k = (if 1 ≤ y.st ∧ y.st ≤ k then y.va else 0) + sumTo r k
  | 0 => by
    simp only [sumTo]
    split <;> omega
  | k + 1 => by
    simp only [sumTo, sumTo_cons y r k, sumV]
    have : hitB [((k : Int) + 1)] y.st = decide (y.st = (k : Int) + 1) := by simp [hitB]
    rw [this]
    simp only [decide_eq_true_eq]
    by_cases h : y.st = (k : Int) + 1
    · have h1 : ¬ (1 ≤ y.st ∧ y.st ≤ (k : Int)) := by omega
      have h2 : 1 ≤ y.st ∧ y.st ≤ ((k + 1 : Nat) : Int) := by omega
      rw [if_pos h, if_neg h1, if_pos h2]; omega
    · rw [if_neg h]
      by_cases h2 : 1 ≤ y.st ∧ y.st ≤ (k : Int)
      · have h3 : 1 ≤ y.st ∧ y.st ≤ ((k + 1 : Nat) : Int) := by omega
        rw [if_pos h2, if_pos h3]; omega
      · have h3 : ¬ (1 ≤ y.st ∧ y.st ≤ ((k + 1 : Nat) : Int)) := by omega
        rw [if_neg h2, if_neg h3]; omega
theorem sumTo_all : ∀ cs : List Cpn, (∀ y ∈ cs, stB y.st = true) → sumTo cs 9 = sumV [] cs
  | [], _ => by simp [sumTo, sumV]
  | y :: r, h => by
    rw [sumTo_cons, sumTo_all r (fun z hz => h z (by simp [hz])), sumV]
    have h1 := h y (by simp)
    unfold stB at h1
    simp only [Bool.and_eq_true, decide_eq_true_eq] at h1
    rw [if_pos (by omega), if_pos (by simp [hitB])]
theorem live_last {s : Int} (h : stB s = true) : liveB s = !lastB s := by
  unfold liveB lastB
  rw [h]
  simp
theorem told_days {u : Int} {n : Nat} {iss : Int} (hs : List Evt) : ∀ s, toldE u n iss hs = some s → s.at_ ≤ u → s.thn = s.now := by
  refine Wire.snocRec (M := fun hs => ∀ s, toldE u n iss hs = some s → s.at_ ≤ u → s.thn = s.now) ?_ ?_ hs
  · intro s h _
    injection h with h
    subst h
    rfl
  · intro l x ih s h hu
    rw [toldE_snoc] at h
    obtain ⟨s0, h0, hk, rfl⟩ := stepE_len h
    unfold evOk at hk
    simp only [Bool.and_eq_true, decide_eq_true_eq] at hk
    simp only [evDo] at hu ⊢
    rw [if_pos hu, ih s0 h0 (by omega)]
theorem then_last {t : Tk} (hm : mayB t = true) {u : Int} (hu : lastD t ≤ u) : thenL u t = t.cs.map (·.st) := by
  have hh : histB u t = true := by
    unfold mayB at hm
    simp only [Bool.and_eq_true] at hm
    rw [histB_any u 0]
    exact hm.2
  obtain ⟨s, hs, hn⟩ := hist_some hh
  unfold thenL
  rw [hs]
  simp only
  rw [told_days _ s hs (by rw [told_lastD hs]; exact hu), hn]
theorem then_len {t : Tk} (hm : mayB t = true) (u : Int) : (thenL u t).length = t.cs.length := by
  have hh : histB u t = true := by
    unfold mayB at hm
    simp only [Bool.and_eq_true] at hm
    rw [histB_any u 0]
    exact hm.2
  obtain ⟨s, hs, hn⟩ := hist_some hh
  unfold thenL
  rw [hs]
  exact (toldE_len _ hs).2.1
end Tkt
end Go.Proofs.Ytadabjkhiaidcaa
end
