/- Plain law: what a stable sort may do to a list: order each key's own elements stay in; a sorted list of the same such rows is one alone. -/

namespace Go.Proofs.YtellhmbebimenaaDoor
namespace Srt
variable {α : Type} (key : α → Int)

/-- y has the same elements as x, those of one key in the same order -/
def Mix (x y : List α) : Prop := x.length = y.length ∧ ∀ k, x.filter (fun e => key e == k) = y.filter (fun e => key e == k)
def Up (x : List α) : Prop := x.Pairwise (fun a b => key a ≤ key b)

variable {key}
theorem Mix.refl (x : List α) : Mix key x x := ⟨rfl, fun _ => rfl⟩
theorem Mix.trans {x y z : List α} (h : Mix key x y) (g : Mix key y z) : Mix key x z := ⟨h.1.trans g.1, fun k => (h.2 k).trans (g.2 k)⟩
theorem Mix.symm {x y : List α} (h : Mix key x y) : Mix key y x := ⟨h.1.symm, fun k => (h.2 k).symm⟩
theorem Mix.app {x y x' y' : List α} (h : Mix key x x') (g : Mix key y y') : Mix key (x ++ y) (x' ++ y') :=
  ⟨by rw [List.length_append, List.length_append, h.1, g.1], fun k => by rw [List.filter_append, List.filter_append, h.2, g.2]⟩
theorem Mix.mem {x y : List α} (h : Mix key x y) {e : α} (he : e ∈ x) : e ∈ y := by
  have : e ∈ x.filter (fun a => key a == key e) := by simp [he]
  rw [h.2] at this
  exact (List.mem_filter.1 this).1
theorem filter_none {x : List α} {k : Int} (h : ∀ a ∈ x, key a ≠ k) : x.filter (fun e => key e == k) = [] := by
  rw [List.filter_eq_nil_iff]
  intro a ha
  simpa using h a ha
theorem Mix.swap {x y : List α} (h : ∀ a ∈ x, ∀ b ∈ y, key a ≠ key b) : Mix key (x ++ y) (y ++ x) := by
  refine ⟨by simp [Nat.add_comm], fun k => ?_⟩
  rw [List.filter_append, List.filter_append]
  by_cases hx : ∃ a ∈ x, key a = k
  · obtain ⟨a, ha, rfl⟩ := hx
    rw [filter_none (x := y) fun b hb e => h a ha b hb e.symm]
    simp
  · rw [filter_none (x := x) fun a ha e => hx ⟨a, ha, e⟩]
    simp
theorem Up.nil : Up key ([] : List α) := List.Pairwise.nil
theorem Up.one (a : α) : Up key [a] := List.pairwise_singleton _ _
theorem Up.app {x y : List α} (h : Up key x) (g : Up key y) (hxy : ∀ a ∈ x, ∀ b ∈ y, key a ≤ key b) : Up key (x ++ y) := List.pairwise_append.2 ⟨h, g, hxy⟩
theorem Up.parts {x y : List α} (h : Up key (x ++ y)) : Up key x ∧ Up key y ∧ ∀ a ∈ x, ∀ b ∈ y, key a ≤ key b := List.pairwise_append.1 h

/-- sorted, and each key's own as they were: there is one such list alone -/
theorem Up.only : ∀ (x y : List α), Up key x → Up key y → Mix key x y → x = y := by
  intro x
  induction x with
  | nil =>
    intro y _ _ h
    have := h.1
    exact (List.length_eq_zero_iff.1 this.symm).symm
  | cons a x ih =>
    intro y hx hy h
    cases y with
    | nil => exact absurd h.1 (by simp)
    | cons b y =>
      have hx' := List.pairwise_cons.1 hx
      have hy' := List.pairwise_cons.1 hy
      have h1 : key a ≤ key b := by
        rcases List.mem_cons.1 (h.symm.mem (e := b) (by simp)) with e | e
        · rw [e]; exact Int.le_refl _
        · exact hx'.1 b e
      have h2 : key b ≤ key a := by
        rcases List.mem_cons.1 (h.mem (e := a) (by simp)) with e | e
        · rw [e]; exact Int.le_refl _
        · exact hy'.1 a e
      have hk : key a = key b := Int.le_antisymm h1 h2
      have h3 := h.2 (key a)
      rw [List.filter_cons, List.filter_cons, if_pos (by simp), if_pos (by simp [hk])] at h3
      injection h3 with h3 h4
      subst h3
      rw [ih y hx'.2 hy'.2 ⟨by simpa using h.1, fun k => ?_⟩]
      have h5 := h.2 k
      rw [List.filter_cons, List.filter_cons] at h5
      by_cases hak : (key a == k) = true
      · rw [if_pos hak, if_pos hak] at h5
        injection h5
      · rw [if_neg hak, if_neg hak] at h5
        exact h5

/-- of a sorted list: an element at a place, and one further on -/
theorem Up.at {x : List α} (h : Up key x) {i j : Nat} {a b : α} (hij : i ≤ j) (ha : x[i]? = some a) (hb : x[j]? = some b) : key a ≤ key b := by
  rcases Nat.lt_or_ge i j with hlt | hge
  · obtain ⟨h1, e1⟩ := List.getElem?_eq_some_iff.1 ha
    obtain ⟨h2, e2⟩ := List.getElem?_eq_some_iff.1 hb
    have := List.pairwise_iff_getElem.1 h i j h1 h2 hlt
    rw [e1, e2] at this
    exact this
  · obtain rfl : i = j := by omega
    rw [ha] at hb
    injection hb with hb
    rw [hb]
    exact Int.le_refl _
theorem mem_at {x : List α} {a : α} (h : a ∈ x) : ∃ i : Nat, x[i]? = some a := List.mem_iff_getElem?.1 h

/-- insertion of one element: it goes ahead of those above it -/
theorem insert_up {u v : List α} {e : α} (h : Up key (u ++ v)) (hv : ∀ a ∈ v, key e < key a) (hu : ∀ i a, u[i]? = some a → i + 1 = u.length → key a ≤ key e) : Up key (u ++ e :: v) := by
  obtain ⟨h1, h2, h3⟩ := h.parts
  refine Up.app h1 (List.pairwise_cons.2 ⟨fun a ha => Int.le_of_lt (hv a ha), h2⟩) ?_
  intro a ha b hb
  have hae : key a ≤ key e := by
    obtain ⟨i, hi⟩ := mem_at ha
    have hl := (List.getElem?_eq_some_iff.1 hi).1
    obtain ⟨c, hc⟩ : ∃ c, u[u.length - 1]? = some c := ⟨_, List.getElem?_eq_getElem (by omega)⟩
    have := h1.at (i := i) (j := u.length - 1) (by omega) hi hc
    have := hu _ c hc (by omega)
    omega
  rcases List.mem_cons.1 hb with rfl | hb
  · exact hae
  · exact h3 a ha b hb
theorem insert_mix {u v : List α} {e : α} (hv : ∀ a ∈ v, key e < key a) : Mix key (u ++ v ++ [e]) (u ++ e :: v) := by
  have := (Mix.refl (key := key) u).app (Mix.swap (key := key) (x := v) (y := [e]) fun a ha b hb => by
    rw [List.mem_singleton.1 hb]; have := hv a ha; omega)
  simpa using this
/-- an element goes behind those that are not above it -/
theorem behind_up {u v : List α} {e : α} (h : Up key (u ++ v)) (hu : ∀ a ∈ u, key a < key e) (hv : ∀ a, v[0]? = some a → key e ≤ key a) : Up key (u ++ e :: v) := by
  obtain ⟨h1, h2, h3⟩ := h.parts
  have hev : ∀ a ∈ v, key e ≤ key a := by
    intro a ha
    obtain ⟨i, hi⟩ := mem_at ha
    have hl := (List.getElem?_eq_some_iff.1 hi).1
    obtain ⟨c, hc⟩ : ∃ c, v[0]? = some c := ⟨_, List.getElem?_eq_getElem (by omega)⟩
    have := h2.at (Nat.zero_le i) hc hi
    have := hv c hc
    omega
  refine Up.app h1 (List.pairwise_cons.2 ⟨hev, h2⟩) ?_
  intro a ha b hb
  rcases List.mem_cons.1 hb with rfl | hb
  · exact Int.le_of_lt (hu a ha)
  · exact h3 a ha b hb
theorem behind_mix {u v : List α} {e : α} (hu : ∀ a ∈ u, key a < key e) : Mix key (e :: u ++ v) (u ++ e :: v) := by
  have := (Mix.swap (key := key) (x := [e]) (y := u) fun a ha b hb => by
    rw [List.mem_singleton.1 ha]; have := hu b hb; omega).app (Mix.refl (key := key) v)
  simpa using this

/-- ONE MERGE: two sorted runs, x = x1 x2 and y = y1 y2, cut so that x1 is not above y2 and y1 is below x2: the two halves x1 y1 and x2 y2 are merged each for itself -/
theorem merge_cut {x1 x2 y1 y2 l r : List α} (hx : Up key (x1 ++ x2)) (hy : Up key (y1 ++ y2)) (h21 : ∀ a ∈ x2, ∀ b ∈ y1, key b < key a) (h12 : ∀ a ∈ x1, ∀ b ∈ y2, key a ≤ key b)
    (hl : Mix key (x1 ++ y1) l) (hlu : Up key l) (hr : Mix key (x2 ++ y2) r) (hru : Up key r) : Mix key (x1 ++ x2 ++ (y1 ++ y2)) (l ++ r) ∧ Up key (l ++ r) := by
  obtain ⟨a1, a2, a3⟩ := hx.parts
  obtain ⟨b1, b2, b3⟩ := hy.parts
  refine ⟨?_, hlu.app hru ?_⟩
  · have e1 : Mix key (x2 ++ y1) (y1 ++ x2) := Mix.swap fun a ha b hb => by have := h21 a ha b hb; omega
    have e2 : Mix key (x1 ++ (x2 ++ y1) ++ y2) (x1 ++ (y1 ++ x2) ++ y2) := ((Mix.refl x1).app e1).app (Mix.refl y2)
    have e3 : Mix key ((x1 ++ y1) ++ (x2 ++ y2)) (l ++ r) := hl.app hr
    have := e2.trans (by simpa using e3)
    simpa using this
  · intro a ha b hb
    rcases List.mem_append.1 (hl.symm.mem ha) with h | h <;> rcases List.mem_append.1 (hr.symm.mem hb) with g | g
    · exact a3 a h b g
    · exact h12 a h b g
    · exact Int.le_of_lt (h21 b g a h)
    · exact b3 a h b g
end Srt
end Go.Proofs.YtellhmbebimenaaDoor
