/- Plain law of reports: rows in order, no two alike, are what a sorted list of postings that may be and are not alike is. -/
import Derived.Test.YtolfekbhlfjniaaSrtC
import Derived.Test.YtolfekbhlfjniaaPartP
set_option linter.unusedVariables false
namespace Go.Proofs.Ytolfekbhlfjniaa
namespace Rep
/-- may each be, and is each one below the next? -/
def RisP (l : List Pst) : Prop := (∀ p ∈ l, p.may = true) ∧ ∀ (i : Nat) (x y : Pst), l[i]? = some x → l[i + 1]? = some y → lessP x y = true
/-- may each be, and are no two alike? -/
def alike (x y : Pst) : Bool := decide (x.t = y.t) && decide (x.s = y.s)
def FineP (l : List Pst) : Prop := (∀ p ∈ l, p.may = true) ∧ ∀ (i j : Nat) (x y : Pst), j < i → l[i]? = some x → l[j]? = some y → alike x y = false
def within (a b : Int) (p : Pst) : Bool := decide (a ≤ p.d) && decide (p.d ≤ b)
def days (a b : Int) : Bool := decide (0 ≤ a) && decide (a ≤ b) && decide (b ≤ 1000000)

theorem less_keyP {x y : Pst} (hx : x.wf) (hy : y.wf) : lessP x y = true ↔ keyP x < keyP y := by
  rw [← ord_key hx hy, ← ord_less x y]
  simp
theorem alike_key {x y : Pst} (hx : x.wf) (hy : y.wf) : alike x y = true ↔ keyP x = keyP y := by
  have h1 := less_keyP hx hy
  have h2 := less_keyP hy hx
  unfold alike
  unfold lessP at h1 h2
  simp only [Bool.or_eq_true, Bool.and_eq_true, decide_eq_true_eq] at h1 h2 ⊢
  omega
theorem alike_comm (x y : Pst) : alike x y = alike y x := by
  unfold alike
  rw [Bool.eq_iff_iff]
  simp only [Bool.and_eq_true, decide_eq_true_eq]
  constructor <;> (rintro ⟨h1, h2⟩; exact ⟨h1.symm, h2.symm⟩)
theorem fine_pairwise (l : List Pst) : FineP l ↔ (∀ p ∈ l, p.may = true) ∧ l.Pairwise (fun x y => alike x y = false) := by
  have hsym := alike_comm
  unfold FineP
  refine and_congr_right fun _ => ?_
  rw [List.pairwise_iff_getElem]
  constructor
  · intro h i j hi hj hij
    rw [hsym]
    exact h j i _ _ hij (List.getElem?_eq_getElem hj) (List.getElem?_eq_getElem hi)
  · intro h i j x y hij hx hy
    obtain ⟨hi, e1⟩ := List.getElem?_eq_some_iff.1 hx
    obtain ⟨hj, e2⟩ := List.getElem?_eq_some_iff.1 hy
    have := h j i hj hi hij
    rw [e1, e2] at this
    rw [hsym]
    exact this
theorem fine_perm {x y : List Pst} (h : x.Perm y) : FineP x ↔ FineP y := by
  rw [fine_pairwise, fine_pairwise]
  have hsym : ∀ {a b : Pst}, alike a b = false → alike b a = false := fun {a b} h => by rw [alike_comm]; exact h
  rw [h.pairwise_iff hsym]
  exact and_congr_left fun _ => ⟨fun h1 p hp => h1 p (h.mem_iff.2 hp), fun h1 p hp => h1 p (h.mem_iff.1 hp)⟩
/-- of a sorted list -/
theorem ris_fine {s : List Pst} (hw : WF s) (hu : Srt.Up keyP s) : RisP s ↔ FineP s := by
  refine and_congr_right fun _ => ⟨fun h i j x y hij hx hy => ?_, fun h i x y hx hy => ?_⟩
  · have hxw := hw x (List.mem_of_getElem? hx)
    have hyw := hw y (List.mem_of_getElem? hy)
    obtain ⟨z, hz⟩ : ∃ z, s[j + 1]? = some z := ⟨_, List.getElem?_eq_getElem (by have := (List.getElem?_eq_some_iff.1 hx).1; omega)⟩
    have h1 := (less_keyP hyw (hw z (List.mem_of_getElem? hz))).1 (h j y z hy hz)
    have h2 := hu.at (i := j + 1) (j := i) (by omega) hz hx
    have h3 := alike_key hxw hyw
    cases ha : alike x y
    · rfl
    · have := h3.1 ha; omega
  · have hxw := hw x (List.mem_of_getElem? hx)
    have hyw := hw y (List.mem_of_getElem? hy)
    have h1 := h (i + 1) i y x (by omega) hy hx
    have h2 := hu.at (i := i) (j := i + 1) (by omega) hx hy
    have h3 := alike_key hyw hxw
    refine (less_keyP hxw hyw).2 ?_
    have : keyP y ≠ keyP x := fun e => by rw [h3.2 e] at h1; cases h1
    omega
theorem ris_of {l s : List Pst} (hw : WF l) (hm : Srt.Mix keyP l s) (hu : Srt.Up keyP s) : RisP s ↔ FineP l := by
  rw [ris_fine (fun e he => hw e (hm.symm.mem he)) hu]
  exact (fine_perm hm.perm).symm
/-- those of some days, sorted: the same whether sorted ahead or behind -/
theorem Up.filter {s : List Pst} (h : Srt.Up keyP s) (q : Pst → Bool) : Srt.Up keyP (s.filter q) := List.Pairwise.filter _ h
theorem Mix.filter {l s : List Pst} (h : Srt.Mix keyP l s) (q : Pst → Bool) : Srt.Mix keyP (l.filter q) (s.filter q) := by
  refine ⟨(h.perm.filter q).length_eq, fun k => ?_⟩
  rw [List.filter_filter, List.filter_filter]
  have h1 : ∀ z : List Pst, z.filter (fun e => (keyP e == k) && q e) = (z.filter (fun e => keyP e == k)).filter q := fun z => by
    rw [List.filter_filter]
    refine List.filter_congr fun e _ => Bool.and_comm _ _
  rw [h1, h1, h.2 k]
/-- are two postings the same? -/
def sameP (x y : Pst) : Bool := x.d == y.d && (x.t == y.t && (x.s == y.s && (x.k == y.k && (x.a0 == y.a0 && (x.a1 == y.a1 && (x.a2 == y.a2 && (x.a3 == y.a3 && (x.a4 == y.a4 && (x.a5 == y.a5)))))))))
theorem sameP_iff (x y : Pst) : sameP x y = true ↔ x = y := by
  obtain ⟨d, t, s, k, a0, a1, a2, a3, a4, a5⟩ := x
  obtain ⟨d', t', s', k', b0, b1, b2, b3, b4, b5⟩ := y
  simp [sameP]
theorem fine_nodup {l : List Pst} (h : FineP l) : l.Nodup := by
  refine ((fine_pairwise l).1 h).2.imp ?_
  intro a b hab e
  subst e
  unfold alike at hab
  simp at hab
theorem count_one {α : Type} [BEq α] [LawfulBEq α] : ∀ (l : List α) (x : α), l.Nodup → x ∈ l → l.count x = 1 := by
  intro l x
  induction l with
  | nil => intro _ h; cases h
  | cons a l ih =>
    intro h hx
    obtain ⟨h1, h2⟩ := List.nodup_cons.1 h
    by_cases e : x = a
    · subst e
      rw [List.count_cons_self, List.count_eq_zero.2 h1]
    · rw [List.count_cons_of_ne (fun h => e h.symm)]
      exact ih h2 ((List.mem_cons.1 hx).resolve_left e)
theorem count_rows {l s : List Pst} {x : Pst} (hx : x ∈ l) (hm : Srt.Mix keyP l s) (hf : FineP l) (a b : Int) : ((s.filter (within a b)).filter (fun y => sameP y x)).length = if within a b x then 1 else 0 := by
  classical
  have h1 : ∀ z : List Pst, (z.filter (fun y => sameP y x)).length = z.count x := fun z => by
    rw [List.count_eq_countP, List.countP_eq_length_filter]
    congr 1
    refine List.filter_congr fun y _ => ?_
    rw [Bool.eq_iff_iff, sameP_iff]
    simp
  rw [h1]
  have h2 : s.count x = 1 := by
    rw [← hm.perm.count_eq]
    exact count_one _ _ (fine_nodup hf) hx
  by_cases hw : within a b x = true
  · rw [List.count_filter hw, h2, if_pos hw]
  · rw [if_neg hw, List.count_eq_zero]
    intro hmem
    exact hw (List.mem_filter.1 hmem).2
end Rep
end Go.Proofs.Ytolfekbhlfjniaa
