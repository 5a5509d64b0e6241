/- The plain law of a ticket's change: what a change makes of a ticket that may be, may be. -/
import Derived.Test.YtmadkfahkbdibaaTkV
set_option linter.unusedVariables false
set_option linter.unusedSimpArgs false
namespace Go.Proofs.Ytmadkfahkbdibaa
open Go.RowKit

namespace Tkt
theorem told_last {u : Int} {n : Nat} {iss : Int} (hs : List Evt) : ∀ s, toldE u n iss hs = some s → s.at_ = (match hs.getLast? with | none => iss | some e => e.dy) := by
  refine Wire.snocRec (M := fun hs => ∀ s, toldE u n iss hs = some s → s.at_ = (match hs.getLast? with | none => iss | some e => e.dy)) ?_ ?_ hs
  · intro s h
    injection h with h
    subst h
    rfl
  · intro l x ih s h
    rw [toldE_snoc] at h
    obtain ⟨s0, h0, hk, rfl⟩ := stepE_len h
    rw [List.getLast?_append]
    rfl
theorem told_lastD {t : Tk} {u : Int} {s : Told} (h : toldE u t.cs.length t.iss t.hs = some s) : s.at_ = lastD t := told_last _ _ h
theorem hist_some {t : Tk} {u : Int} (h : histB u t = true) : ∃ s, toldE u t.cs.length t.iss t.hs = some s ∧ s.now = t.cs.map (·.st) := by
  unfold histB at h
  cases ht : toldE u t.cs.length t.iss t.hs with
  | none => rw [ht] at h; cases h
  | some s => rw [ht] at h; exact ⟨s, rfl, by simpa using h⟩
theorem hist_of {t : Tk} {u : Int} {s : Told} (h : toldE u t.cs.length t.iss t.hs = some s) (hn : s.now = t.cs.map (·.st)) : histB u t = true := by
  unfold histB
  rw [h]
  simpa using hn
/-- a change that is done -/
structure Done (t : Tk) (k : Nat) (y : Cpn) (on tq wi : Int) : Prop where
  may : mayB t = true
  at_ : t.cs[k]? = some y
  fits : withB t.num tq wi = true
  leads : leadsB y.st tq = true
  day : lastD t ≤ on ∧ on ≤ 1000000
  room : t.hs.length ≠ 60
theorem done_of {t : Tk} {co on tq wi : Int} (h : errC t co on tq wi = 0) : ∃ k y, co = ((k : Nat) : Int) + 1 ∧ Done t k y on tq wi := by
  unfold errC at h
  split at h
  · rename_i hc
    obtain ⟨h1, h2, h3, h4⟩ := hc
    split at h
    · cases h
    · rename_i y hy
      refine ⟨co.toNat - 1, y, by omega, ?_⟩
      split at h
      · rename_i hl
        split at h
        · rename_i hd
          split at h
          · cases h
          · rename_i hr
            exact ⟨h1, hy, h4, hl, hd, hr⟩
        · cases h
      · cases h
  · cases h
theorem cpn_chg {num : Int} {y : Cpn} {tq wi : Int} (h : cpnB num y = true) (hf : withB num tq wi = true) (hs : stB tq = true) : cpnB num (chgC y tq wi) = true := by
  unfold cpnB at h ⊢
  unfold chgC
  simp only [Bool.and_eq_true] at h ⊢
  obtain ⟨⟨⟨⟨⟨⟨h1, h2⟩, h3⟩, h4⟩, h5⟩, h6⟩, h7⟩ := h
  refine ⟨⟨⟨⟨⟨⟨h1, h2⟩, h3⟩, h4⟩, hs⟩, ?_⟩, ?_⟩
  · by_cases h9 : tq = 9
    · rw [if_pos h9, if_pos h9]
      rw [withB, if_pos h9] at hf
      exact hf
    · rw [if_neg h9, if_neg h9]; rfl
  · by_cases h5 : tq = 5
    · rw [if_pos h5, if_pos h5]
      rw [withB, if_neg (by omega), if_pos h5] at hf
      exact hf
    · rw [if_neg h5, if_neg h5]; rfl
theorem may_chg {t : Tk} {k : Nat} {y : Cpn} {on tq wi : Int} (d : Done t k y on tq wi) : mayB (chg t ((k : Int) + 1) on tq wi) = true := by
  rw [chg_ok d.at_]
  have hm := d.may
  unfold mayB at hm ⊢
  simp only [Bool.and_eq_true] at hm ⊢
  obtain ⟨⟨⟨⟨hh, hl⟩, hc⟩, ht⟩, hi⟩ := hm
  have hk : k < t.cs.length := (List.getElem?_eq_some_iff.1 d.at_).1
  have hst : stB tq = true := by
    have := d.leads
    unfold leadsB at this
    simp only [Bool.and_eq_true] at this
    exact this.1
  refine ⟨⟨⟨⟨hh, ?_⟩, ?_⟩, ht⟩, ?_⟩
  · unfold lensB at hl ⊢
    simp only [Bool.and_eq_true, decide_eq_true_eq, List.length_set, List.length_append, List.length_singleton] at hl ⊢
    have := d.room
    omega
  · rw [List.all_eq_true] at hc ⊢
    intro c hcm
    rcases List.mem_or_eq_of_mem_set hcm with h | rfl
    · exact hc c h
    · exact cpn_chg (hc y (List.mem_of_getElem? d.at_)) d.fits hst
  · obtain ⟨s, hs, hn⟩ := hist_some hi
    have hlen : s.now.length = t.cs.length := (toldE_len _ hs).1
    have hok : evOk s ⟨on, (k : Int) + 1, y.st, tq⟩ = true := by
      unfold evOk
      simp only [Bool.and_eq_true, decide_eq_true_eq]
      refine ⟨⟨⟨⟨⟨by omega, by omega⟩, by rw [told_lastD hs]; exact d.day.1⟩, d.day.2⟩, ?_⟩, d.leads⟩
      rw [show ((k : Int) + 1).toNat - 1 = k by omega, hn, List.getD_eq_getElem?_getD, List.getElem?_map, d.at_]
      rfl
    refine hist_of (s := evDo 0 s ⟨on, (k : Int) + 1, y.st, tq⟩) ?_ ?_
    · simp only [List.length_set]
      rw [toldE_snoc, hs]
      show (if evOk s _ = true then _ else _) = _
      rw [if_pos hok]
    · show s.now.set (((k : Int) + 1).toNat - 1) tq = _
      rw [show ((k : Int) + 1).toNat - 1 = k by omega, hn, List.map_set]
      rfl
/-- what Change tells is of the shape that its types allow -/
theorem wf_chg {t : Tk} {k : Nat} {y : Cpn} {on tq wi : Int} (d : Done t k y on tq wi) (hw : t.wf) (ho : I64 on) (hwi : U64 wi) : (chg t ((k : Int) + 1) on tq wi).wf := by
  rw [chg_ok d.at_]
  have hst : stB tq = true := by
    have := d.leads
    unfold leadsB at this
    simp only [Bool.and_eq_true] at this
    exact this.1
  have htq : 1 ≤ tq ∧ tq ≤ 9 := by unfold stB at hst; simpa using hst
  have hk : k < t.cs.length := (List.getElem?_eq_some_iff.1 d.at_).1
  have hlen := (mayB_lens d.may).2.1
  have hy := hw.cs y (List.mem_of_getElem? d.at_)
  refine ⟨hw.num, hw.loc, hw.iss, ?_, hw.ts, hw.prev, hw.org, hw.fst, hw.vou, hw.posts, ?_⟩
  · intro c hc
    rcases List.mem_or_eq_of_mem_set hc with h | rfl
    · exact hw.cs c h
    · refine ⟨hy.1, hy.2.1, hy.2.2.1, ⟨by simp only [chgC]; omega, by simp only [chgC]; omega⟩, ?_, ?_⟩
      · unfold chgC
        simp only
        by_cases h9 : tq = 9
        · rw [if_pos h9]
          have := d.fits
          rw [withB, if_pos h9] at this
          unfold holdB at this
          simp at this
          exact ⟨by omega, by omega⟩
        · rw [if_neg h9]; exact ⟨by omega, by omega⟩
      · unfold chgC
        simp only
        by_cases h5 : tq = 5
        · rw [if_pos h5]; exact hwi
        · rw [if_neg h5]; exact ⟨by omega, by omega⟩
  · intro x hx
    rcases List.mem_append.1 hx with hx | hx
    · exact hw.hs x hx
    · obtain rfl := List.mem_singleton.1 hx
      exact ⟨ho, ⟨by simp only; omega, by simp only; omega⟩, hy.2.2.2.1, ⟨by simp only; omega, by simp only; omega⟩⟩
end Tkt
end Go.Proofs.Ytmadkfahkbdibaa
