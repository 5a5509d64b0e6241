/- Plain law of a net: acts, ages, and what comes of each letter. -/
import Derived.Test.YtihilifpadpkbaaNtP
import Derived.Test.YtihilifpadpkbaaNtG
set_option linter.unusedVariables false
set_option linter.unusedSimpArgs false
namespace Go.Proofs.Ytihilifpadpkbaa
open Go.RowKit

namespace Nt
/-- how often a letter is in a list -/
def cnt (x : Lt) (l : List Lt) : Nat := l.countP (fun y => Lt.eqB x y)
theorem cnt_nil (x : Lt) : cnt x [] = 0 := rfl
theorem cnt_append (x : Lt) (a b : List Lt) : cnt x (a ++ b) = cnt x a + cnt x b := by unfold cnt; exact List.countP_append
theorem cnt_pos {x : Lt} {l : List Lt} (h : x ∈ l) : 1 ≤ cnt x l := by
  unfold cnt
  exact List.countP_pos_iff.2 ⟨x, h, (Lt.eqB_iff x x).2 rfl⟩
/-- every two of the list are unlike -/
def Apart (l : List Lt) : Prop := ∀ x : Lt, cnt x l ≤ 1
theorem sel_apart {α : Type} {s t : Nat → α → Bool} {q : α → Bool} (h : ∀ i x, ¬ (s i x = true ∧ t i x = true)) (l : List α) : (sel s l).countP q + (sel t l).countP q ≤ l.countP q := by
  unfold sel
  have key : ∀ (z : List (α × Nat)), ((z.filter fun p => s p.2 p.1).map (·.1)).countP q + ((z.filter fun p => t p.2 p.1).map (·.1)).countP q ≤ (z.map (·.1)).countP q := by
    intro z
    induction z with
    | nil => simp
    | cons p z ih =>
      have hp := h p.2 p.1
      cases h1 : s p.2 p.1 <;> cases h2 : t p.2 p.1 <;> cases h3 : q p.1 <;> simp [List.filter_cons, h1, h2, h3] at hp ⊢ <;> simp at ih <;> omega
  have h1 := key l.zipIdx
  have h2 : l.zipIdx.map (·.1) = l := by simp
  rw [h2] at h1
  exact h1
theorem sel_countP {α : Type} (s : Nat → α → Bool) (q : α → Bool) (l : List α) : (sel s l).countP q ≤ l.countP q := by
  have := sel_apart (s := s) (t := fun _ _ => false) (q := q) (by simp) l
  omega
theorem cnt_map (x : Lt) (l : List Hd) : cnt x (l.map (·.l)) = l.countP (fun h => Lt.eqB x h.l) := by
  unfold cnt; rw [List.countP_map]; rfl
theorem told_cnt (k : Int) (calm : Bool) (p : List Int) (l : List Hd) (x : Lt) : cnt x (told k calm p l) ≤ cnt x (l.map (·.l)) := by
  unfold told came late
  rw [cnt_append, cnt_map, cnt_map, cnt_map]
  exact sel_apart (by intro i y h; simp only [Bool.and_eq_true, Bool.not_eq_true'] at h; exact absurd h.1.2 (by rw [h.2.2]; decide)) l
theorem stay_map (k : Int) (calm : Bool) (p : List Int) (l : List Hd) : (stay k calm p l).map (·.l) = (sel (stayB k calm p) l).map (·.l) := by
  unfold stay; rw [List.map_map]; rfl
theorem stay_cnt (k : Int) (calm : Bool) (p : List Int) (l : List Hd) (x : Lt) : cnt x ((stay k calm p l).map (·.l)) ≤ cnt x (l.map (·.l)) := by
  rw [stay_map, cnt_map, cnt_map]; exact sel_countP _ _ l
theorem mem_sel {α : Type} {s : Nat → α → Bool} {l : List α} {i : Nat} {x : α} (hx : l[i]? = some x) (h : s i x = true) : x ∈ sel s l := by
  unfold sel
  refine List.mem_map.2 ⟨(x, i), List.mem_filter.2 ⟨?_, h⟩, rfl⟩
  exact List.mk_mem_zipIdx_iff_getElem?.2 hx
/-- in a calm net each letter stays or comes -/
theorem calm_one {k : Int} {p : List Int} {l : List Hd} {x : Lt} (h : x ∈ l.map (·.l)) : x ∈ (stay k true p l).map (·.l) ∨ x ∈ told k true p l := by
  obtain ⟨y, hy, rfl⟩ := List.mem_map.1 h
  obtain ⟨i, hi⟩ := List.mem_iff_getElem?.1 hy
  have hf : fateAt k true p i y = 0 ∨ fateAt k true p i y = 1 ∨ fateAt k true p i y = 2 := by
    unfold fateAt fate
    by_cases hn : (pk p i % 4 = 3 ∧ true = true) ∨ (¬ pk p i % 4 = 3 ∧ k ≤ y.age + 1)
    · rw [if_pos hn]; omega
    · rw [if_neg hn]
      have : ¬ pk p i % 4 = 3 := fun h => hn (.inl ⟨h, rfl⟩)
      omega
  by_cases hs : fateAt k true p i y = 1
  · left
    rw [stay_map]
    exact List.mem_map.2 ⟨y, mem_sel hi (by unfold stayB; simp [hs]), rfl⟩
  · right
    have hc : comeB k true p i y = true := by unfold comeB; rcases hf with h | h | h <;> simp_all
    unfold told came late
    rw [List.mem_append]
    cases he : earlyB p i
    · exact .inr (List.mem_map.2 ⟨y, mem_sel hi (by simp [hc, he]), rfl⟩)
    · exact .inl (List.mem_map.2 ⟨y, mem_sel hi (by simp [hc, he]), rfl⟩)
theorem told_mem {k : Int} {calm : Bool} {p : List Int} {l : List Hd} {x : Lt} (h : x ∈ told k calm p l) : x ∈ l.map (·.l) := by
  unfold told came late at h
  rcases List.mem_append.1 h with h | h
  · obtain ⟨y, hy, rfl⟩ := List.mem_map.1 h; exact List.mem_map.2 ⟨y, sel_mem hy, rfl⟩
  · obtain ⟨y, hy, rfl⟩ := List.mem_map.1 h; exact List.mem_map.2 ⟨y, sel_mem hy, rfl⟩
theorem stay_mem {k : Int} {calm : Bool} {p : List Int} {l : List Hd} {x : Lt} (h : x ∈ (stay k calm p l).map (·.l)) : x ∈ l.map (·.l) := by
  rw [stay_map] at h
  obtain ⟨y, hy, rfl⟩ := List.mem_map.1 h; exact List.mem_map.2 ⟨y, sel_mem hy, rfl⟩
theorem told_nil (k : Int) (calm : Bool) (p : List Int) : told k calm p [] = [] := rfl
theorem stay_nil (k : Int) (calm : Bool) (p : List Int) : stay k calm p [] = [] := rfl
theorem told_le (k : Int) (calm : Bool) (p : List Int) (l : List Hd) : (told k calm p l).length ≤ 2 * l.length := by
  unfold told; rw [List.length_append]; have h1 := came_le k calm p l; have h2 := late_le k calm p l; omega

/-- an act -/
structure Ac where
  (kind : Int) (ls : List Lt) (ps : List Int) (is : Bool)
/-- a net's state: is it calm, what waits -/
abbrev St := Bool × List Hd
def step (k : Int) (s : St) (a : Ac) : St :=
  if a.kind = 1 then (s.1, if (a.ls.all (·.may)) = true then s.2 ++ a.ls.map h0 else s.2)
  else if a.kind = 2 then (s.1, stay k s.1 a.ps s.2)
  else if a.kind = 3 then (a.is, s.2) else s
def play (k : Int) (s : St) (l : List Ac) : St := l.foldl (step k) s
theorem play_take {k : Int} {s : St} {l : List Ac} {i : Nat} {a : Ac} (h : l[i]? = some a) : play k s (l.take (i + 1)) = step k (play k s (l.take i)) a := by
  unfold play; rw [List.take_add_one, h, List.foldl_append]; rfl
/-- what a net of few acts holds -/
structure Fine (k : Int) (n : Nat) (s : St) : Prop where
  len : s.2.length ≤ 20 * n
  age : ∀ x ∈ s.2, 0 ≤ x.age ∧ x.age < k
theorem Fine.nil (k : Int) (c : Bool) : Fine k 0 (c, []) := ⟨Nat.le_refl _, by intro x h; cases h⟩
theorem Fine.step {k : Int} {n : Nat} {s : St} (h : Fine k n s) (hk : 1 ≤ k) {a : Ac} (ha : a.ls.length ≤ 20) : Fine k (n + 1) (step k s a) := by
  have hl := h.len
  unfold Nt.step
  split
  · split
    · refine ⟨by simp; omega, fun x hx => ?_⟩
      rcases List.mem_append.1 hx with h1 | h1
      · exact h.age x h1
      · obtain ⟨y, -, rfl⟩ := List.mem_map.1 h1; exact ⟨by unfold h0; simp, by unfold h0; simp; omega⟩
    · exact ⟨by simp; omega, h.age⟩
  · split
    · refine ⟨by have := stay_le k s.1 a.ps s.2; simp; omega, fun x hx => ?_⟩
      obtain ⟨y, hy, rfl, hlt⟩ := stay_age hx
      have := h.age y hy
      unfold older; exact ⟨by simp; omega, by simp; omega⟩
    · split
      · exact ⟨by simp; omega, h.age⟩
      · exact ⟨by omega, h.age⟩

/-- what has come in t ticks of a net, picks p -/
structure Gone (k : Int) (calm : Bool) (all : List Lt) (t : Nat) (l : List Hd) (n : Lt → Nat) : Prop where
  age : ∀ x ∈ l, x.age = (t : Int)
  few : ∀ x, cnt x (l.map (·.l)) ≤ 1
  inn : ∀ x ∈ l.map (·.l), x ∈ all
  most : ∀ x, n x ≤ t
  least : calm = true → ∀ x ∈ all, x ∈ l.map (·.l) ∨ 1 ≤ n x
theorem Gone.start {k : Int} {calm : Bool} {all : List Lt} (h : ∀ x, cnt x all ≤ 1) : Gone k calm all 0 (all.map h0) (fun _ => 0) := by
  have hm : (all.map h0).map (·.l) = all := by rw [List.map_map]; exact List.map_id' all
  exact ⟨fun x hx => by obtain ⟨y, -, rfl⟩ := List.mem_map.1 hx; rfl, by rw [hm]; exact h, by rw [hm]; exact fun x h => h, fun x => Nat.le_refl _, fun _ x hx => by rw [hm]; exact .inl hx⟩
theorem Gone.tick {k : Int} {calm : Bool} {all : List Lt} {t : Nat} {l : List Hd} {n : Lt → Nat} (h : Gone k calm all t l n) (p : List Int) : Gone k calm all (t + 1) (stay k calm p l) (fun x => n x + cnt x (told k calm p l)) :=
  ⟨fun x hx => by obtain ⟨y, hy, rfl, -⟩ := stay_age hx; have := h.age y hy; unfold older; simp; omega,
   fun x => Nat.le_trans (stay_cnt _ _ _ _ _) (h.few x), fun x hx => h.inn x (stay_mem hx),
   fun x => by have h1 := h.most x; have h2 := told_cnt k calm p l x; have h3 := h.few x; show n x + _ ≤ t + 1; omega,
   fun hc x hx => by
    subst hc
    rcases h.least rfl x hx with h1 | h1
    · rcases calm_one (k := k) (p := p) h1 with h2 | h2
      · exact .inl h2
      · right; have := cnt_pos h2; show 1 ≤ n x + _; omega
    · right; show 1 ≤ n x + _; omega⟩
/-- behind k ticks nothing waits -/
theorem Gone.empty {k : Int} {calm : Bool} {all : List Lt} {t : Nat} {l : List Hd} {n : Lt → Nat} (h : Gone k calm all t l n) (p : List Int) (hk : k ≤ (t : Int) + 1) : stay k calm p l = [] := by
  rcases hs : stay k calm p l with - | ⟨x, r⟩
  · rfl
  · exfalso
    have hx : x ∈ stay k calm p l := by rw [hs]; exact List.mem_cons_self
    obtain ⟨y, hy, rfl, hlt⟩ := stay_age hx
    have := h.age y hy
    omega
end Nt
end Go.Proofs.Ytihilifpadpkbaa
