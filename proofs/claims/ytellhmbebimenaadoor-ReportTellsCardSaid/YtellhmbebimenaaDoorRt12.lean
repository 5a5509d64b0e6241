/- Contracts: posting.Less, Same; the reference's Ahead. Plain law: what a stable sort may do to a list: order each key's own elements stay in; a sorted list of the same such rows is one alone. A row of records in a block of its own, written in place: exchange of two; slices.swapRangeCmpFunc at postings. Contracts: slices.rotateCmpFunc and insertionSortCmpFunc at postings, their order's function handed in. -/
import Derived.Test.YtellhmbebimenaaDoorRt11
import Derived.Test.YtellhmbebimenaaDoorRt2
import Derived.Deep.RegionHeld3
import Derived.Deep.MidRow
import Derived.BigRegion
import Derived.Deep.DrawnRows

section
set_option linter.unusedVariables false
set_option linter.unusedSimpArgs false
namespace Go.Proofs.YtellhmbebimenaaDoor
open Go.RowKit

set_option maxHeartbeats 400000 in
theorem less_any (x y : Pst) (w : World) : Calls Tryd.prog 163 #[.agg x.arr, .agg y.arr] w fun e w' => e = .returned (.bool (lessP x y)) ∧ Below w.heap.size w w' := by
  have HO := Lib.hid (fun W => order_any x y W)
  have HL : Hid (decide (ordI x y < 0) = lessP x y) := Lib.hid (ord_less x y)
  generalize ordI x y = o at *
  generalize lessP x y = q at *
  have HB0 := Lib.hid (fun o o' => ((Below.refl w.heap.size w).alloc (Nat.le_refl _) o).alloc (by simp) o')
  obtain ⟨d, t, s, k, a0, a1, a2, a3, a4, a5⟩ := x
  obtain ⟨d', t', s', k', b0, b1, b2, b3, b4, b5⟩ := y
  unfold Pst.arr at *
  simp only at HO ⊢
  go_enter Tryd.func163, Tryd.ntmps163
  go_wp2_with fail
  refine (HO.out _).mono ?_
  rintro e w1 ⟨rfl, hb1⟩
  have HB := Lib.hid ((HB0.out _ _).trans (hb1.mono (by simp; omega)))
  clear hb1
  go_wp2
  go_ret
  exact ⟨ret_bool HL.out, HB.out⟩

set_option maxHeartbeats 400000 in
theorem ahead_any (x y : Pst) (w : World) : Calls Tryd.prog 178 #[.agg x.arr, .agg y.arr] w fun e w' => e = .returned (.bool (lessP x y)) ∧ Below w.heap.size w w' := by
  obtain ⟨d, t, s, k, a0, a1, a2, a3, a4, a5⟩ := x
  obtain ⟨d', t', s', k', b0, b1, b2, b3, b4, b5⟩ := y
  have HL : Hid (∀ q, (t ≠ t' → q = decide (t < t')) → (t = t' → q = decide (s < s')) → q = lessP ⟨d, t, s, k, a0, a1, a2, a3, a4, a5⟩ ⟨d', t', s', k', b0, b1, b2, b3, b4, b5⟩) := Lib.hid (fun q h1 h2 => by
    unfold lessP
    by_cases h : t = t'
    · rw [h2 h]; simp [h]
    · rw [h1 h]; simp [h])
  generalize lessP ⟨d, t, s, k, a0, a1, a2, a3, a4, a5⟩ ⟨d', t', s', k', b0, b1, b2, b3, b4, b5⟩ = r at *
  unfold Pst.arr
  simp only
  have HB := Lib.hid (fun o o' => ((Below.refl w.heap.size w).alloc (Nat.le_refl _) o).alloc (by simp) o')
  by_cases h : t = t'
  · have HR := Lib.hid (HL.out _ (fun h' => absurd h h') (fun _ => rfl))
    subst h
    go_enter Tryd.func178, Tryd.ntmps178
    go_wp2
    go_ret
    exact ⟨ret_bool HR.out, HB.out _ _⟩
  · have HR := Lib.hid (HL.out _ (fun _ => rfl) (fun h' => absurd h' h))
    go_enter Tryd.func178, Tryd.ntmps178
    go_wp2
    go_ret
    exact ⟨ret_bool HR.out, HB.out _ _⟩
theorem eqAny (x y : Pst) : ∃ q : Bool, ∀ w : World, (binOp .eql 49 (.agg x.arr) (.agg y.arr)).run Tryd.prog w = .ok (.bool q) w := by
  refine ⟨(x.d == y.d && (x.t == y.t && (x.s == y.s && (x.k == y.k && (x.a0 == y.a0 && (x.a1 == y.a1 && (x.a2 == y.a2 && (x.a3 == y.a3 && (x.a4 == y.a4 && (x.a5 == y.a5)))))))))), fun w => ?_⟩
  have hS : Tryd.prog.underlying 49 = some (.struct (Tryd.prog.fieldsOf 49)) := by kernel_rfl
  have hp : Tryd.prog.stoodInHeld 49 = false := by kernel_rfl
  unfold Pst.arr
  rw [run_eql_struct, show (10000 : Nat) = 9999 + 1 from rfl, run_equalIn_agg w 9999 49 _ _ hS hp]
  simp only [Program.fieldsOf, Tryd.underlying49]
  go_simp
  repeat' split
  all_goals simp [*]
theorem guardPst' (x y : Operand) (xs ys : Array Value) (w : World) : (eqGuard .eql 49 x y (.agg xs) (.agg ys)).run Tryd.prog w = .ok () w := run_eqGuard_agg w _ _ _ _ _ _ (by kernel_rfl)
end Go.Proofs.YtellhmbebimenaaDoor
end

section
namespace Go.Proofs.YtellhmbebimenaaDoor
namespace Srt
variable {α : Type} (key : α → Int)

/-- y has the same elements as x, those of one key in the same order -/
def Mix (x y : List α) : Prop := x.length = y.length ∧ ∀ k, x.filter (fun e => key e == k) = y.filter (fun e => key e == k)
def Up (x : List α) : Prop := x.Pairwise (fun a b => key a ≤ key b)

variable {key}
theorem Mix.refl (x : List α) : Mix key x x := ⟨rfl, fun _ => rfl⟩
theorem Mix.trans {x y z : List α} (h : Mix key x y) (g : Mix key y z) : Mix key x z := ⟨h.1.trans g.1, fun k => (h.2 k).trans (g.2 k)⟩
theorem Mix.symm {x y : List α} (h : Mix key x y) : Mix key y x := ⟨h.1.symm, fun k => (h.2 k).symm⟩
theorem Mix.app {x y x' y' : List α} (h : Mix key x x') (g : Mix key y y') : Mix key (x ++ y) (x' ++ y') :=
  ⟨by rw [List.length_append, List.length_append, h.1, g.1], fun k => by rw [List.filter_append, List.filter_append, h.2, g.2]⟩
theorem Mix.mem {x y : List α} (h : Mix key x y) {e : α} (he : e ∈ x) : e ∈ y := by
  have : e ∈ x.filter (fun a => key a == key e) := by simp [he]
  rw [h.2] at this
  exact (List.mem_filter.1 this).1
theorem filter_none {x : List α} {k : Int} (h : ∀ a ∈ x, key a ≠ k) : x.filter (fun e => key e == k) = [] := by
  rw [List.filter_eq_nil_iff]
  intro a ha
  simpa using h a ha
theorem Mix.swap {x y : List α} (h : ∀ a ∈ x, ∀ b ∈ y, key a ≠ key b) : Mix key (x ++ y) (y ++ x) := by
  refine ⟨by simp [Nat.add_comm], fun k => ?_⟩
  rw [List.filter_append, List.filter_append]
  by_cases hx : ∃ a ∈ x, key a = k
  · obtain ⟨a, ha, rfl⟩ := hx
    rw [filter_none (x := y) fun b hb e => h a ha b hb e.symm]
    simp
  · rw [filter_none (x := x) fun a ha e => hx ⟨a, ha, e⟩]
    simp
theorem Up.nil : Up key ([] : List α) := List.Pairwise.nil
theorem Up.one (a : α) : Up key [a] := List.pairwise_singleton _ _
theorem Up.app {x y : List α} (h : Up key x) (g : Up key y) (hxy : ∀ a ∈ x, ∀ b ∈ y, key a ≤ key b) : Up key (x ++ y) := List.pairwise_append.2 ⟨h, g, hxy⟩
theorem Up.parts {x y : List α} (h : Up key (x ++ y)) : Up key x ∧ Up key y ∧ ∀ a ∈ x, ∀ b ∈ y, key a ≤ key b := List.pairwise_append.1 h

/-- sorted, and each key's own as they were: there is one such list alone -/
theorem Up.only : ∀ (x y : List α), Up key x → Up key y → Mix key x y → x = y := by
  intro x
  induction x with
  | nil =>
    intro y _ _ h
    have := h.1
    exact (List.length_eq_zero_iff.1 this.symm).symm
  | cons a x ih =>
    intro y hx hy h
    cases y with
    | nil => exact absurd h.1 (by simp)
    | cons b y =>
      have hx' := List.pairwise_cons.1 hx
      have hy' := List.pairwise_cons.1 hy
      have h1 : key a ≤ key b := by
        rcases List.mem_cons.1 (h.symm.mem (e := b) (by simp)) with e | e
        · rw [e]; exact Int.le_refl _
        · exact hx'.1 b e
      have h2 : key b ≤ key a := by
        rcases List.mem_cons.1 (h.mem (e := a) (by simp)) with e | e
        · rw [e]; exact Int.le_refl _
        · exact hy'.1 a e
      have hk : key a = key b := Int.le_antisymm h1 h2
      have h3 := h.2 (key a)
      rw [List.filter_cons, List.filter_cons, if_pos (by simp), if_pos (by simp [hk])] at h3
      injection h3 with h3 h4
      subst h3
      rw [ih y hx'.2 hy'.2 ⟨by simpa using h.1, fun k => ?_⟩]
      have h5 := h.2 k
      rw [List.filter_cons, List.filter_cons] at h5
      by_cases hak : (key a == k) = true
      · rw [if_pos hak, if_pos hak] at h5
        injection h5
      · rw [if_neg hak, if_neg hak] at h5
        exact h5

/-- of a sorted list: an element at a place, and one further on -/
theorem Up.at {x : List α} (h : Up key x) {i j : Nat} {a b : α} (hij : i ≤ j) (ha : x[i]? = some a) (hb : x[j]? = some b) : key a ≤ key b := by
  rcases Nat.lt_or_ge i j with hlt | hge
  · obtain ⟨h1, e1⟩ := List.getElem?_eq_some_iff.1 ha
    obtain ⟨h2, e2⟩ := List.getElem?_eq_some_iff.1 hb
    have := List.pairwise_iff_getElem.1 h i j h1 h2 hlt
    rw [e1, e2] at this
    exact this
  · obtain rfl : i = j := by omega
    rw [ha] at hb
    injection hb with hb
    rw [hb]
    exact Int.le_refl _
theorem mem_at {x : List α} {a : α} (h : a ∈ x) : ∃ i : Nat, x[i]? = some a := List.mem_iff_getElem?.1 h

/-- insertion of one element: it goes ahead of those above it -/
theorem insert_up {u v : List α} {e : α} (h : Up key (u ++ v)) (hv : ∀ a ∈ v, key e < key a) (hu : ∀ i a, u[i]? = some a → i + 1 = u.length → key a ≤ key e) : Up key (u ++ e :: v) := by
  obtain ⟨h1, h2, h3⟩ := h.parts
  refine Up.app h1 (List.pairwise_cons.2 ⟨fun a ha => Int.le_of_lt (hv a ha), h2⟩) ?_
  intro a ha b hb
  have hae : key a ≤ key e := by
    obtain ⟨i, hi⟩ := mem_at ha
    have hl := (List.getElem?_eq_some_iff.1 hi).1
    obtain ⟨c, hc⟩ : ∃ c, u[u.length - 1]? = some c := ⟨_, List.getElem?_eq_getElem (by omega)⟩
    have := h1.at (i := i) (j := u.length - 1) (by omega) hi hc
    have := hu _ c hc (by omega)
    omega
  rcases List.mem_cons.1 hb with rfl | hb
  · exact hae
  · exact h3 a ha b hb
theorem insert_mix {u v : List α} {e : α} (hv : ∀ a ∈ v, key e < key a) : Mix key (u ++ v ++ [e]) (u ++ e :: v) := by
  have := (Mix.refl (key := key) u).app (Mix.swap (key := key) (x := v) (y := [e]) fun a ha b hb => by
    rw [List.mem_singleton.1 hb]; have := hv a ha; omega)
  simpa using this
/-- an element goes behind those that are not above it -/
theorem behind_up {u v : List α} {e : α} (h : Up key (u ++ v)) (hu : ∀ a ∈ u, key a < key e) (hv : ∀ a, v[0]? = some a → key e ≤ key a) : Up key (u ++ e :: v) := by
  obtain ⟨h1, h2, h3⟩ := h.parts
  have hev : ∀ a ∈ v, key e ≤ key a := by
    intro a ha
    obtain ⟨i, hi⟩ := mem_at ha
    have hl := (List.getElem?_eq_some_iff.1 hi).1
    obtain ⟨c, hc⟩ : ∃ c, v[0]? = some c := ⟨_, List.getElem?_eq_getElem (by omega)⟩
    have := h2.at (Nat.zero_le i) hc hi
    have := hv c hc
    omega
  refine Up.app h1 (List.pairwise_cons.2 ⟨hev, h2⟩) ?_
  intro a ha b hb
  rcases List.mem_cons.1 hb with rfl | hb
  · exact Int.le_of_lt (hu a ha)
  · exact h3 a ha b hb
theorem behind_mix {u v : List α} {e : α} (hu : ∀ a ∈ u, key a < key e) : Mix key (e :: u ++ v) (u ++ e :: v) := by
  have := (Mix.swap (key := key) (x := [e]) (y := u) fun a ha b hb => by
    rw [List.mem_singleton.1 ha]; have := hu b hb; omega).app (Mix.refl (key := key) v)
  simpa using this

/-- ONE MERGE: two sorted runs, x = x1 x2 and y = y1 y2, cut so that x1 is not above y2 and y1 is below x2: the two halves x1 y1 and x2 y2 are merged each for itself -/
theorem merge_cut {x1 x2 y1 y2 l r : List α} (hx : Up key (x1 ++ x2)) (hy : Up key (y1 ++ y2)) (h21 : ∀ a ∈ x2, ∀ b ∈ y1, key b < key a) (h12 : ∀ a ∈ x1, ∀ b ∈ y2, key a ≤ key b)
    (hl : Mix key (x1 ++ y1) l) (hlu : Up key l) (hr : Mix key (x2 ++ y2) r) (hru : Up key r) : Mix key (x1 ++ x2 ++ (y1 ++ y2)) (l ++ r) ∧ Up key (l ++ r) := by
  obtain ⟨a1, a2, a3⟩ := hx.parts
  obtain ⟨b1, b2, b3⟩ := hy.parts
  refine ⟨?_, hlu.app hru ?_⟩
  · have e1 : Mix key (x2 ++ y1) (y1 ++ x2) := Mix.swap fun a ha b hb => by have := h21 a ha b hb; omega
    have e2 : Mix key (x1 ++ (x2 ++ y1) ++ y2) (x1 ++ (y1 ++ x2) ++ y2) := ((Mix.refl x1).app e1).app (Mix.refl y2)
    have e3 : Mix key ((x1 ++ y1) ++ (x2 ++ y2)) (l ++ r) := hl.app hr
    have := e2.trans (by simpa using e3)
    simpa using this
  · intro a ha b hb
    rcases List.mem_append.1 (hl.symm.mem ha) with h | h <;> rcases List.mem_append.1 (hr.symm.mem hb) with g | g
    · exact a3 a h b g
    · exact h12 a h b g
    · exact Int.le_of_lt (h21 b g a h)
    · exact b3 a h b g
end Srt
end Go.Proofs.YtellhmbebimenaaDoor
end

section
set_option linter.unusedVariables false
set_option linter.unusedSimpArgs false
namespace Go.Proofs.YtellhmbebimenaaDoor
open Go.RowKit

theorem post_execLoad (ρ : Operand → Value) (dst : Option Tmp) (x : Operand) (ty : TypeId) (pos : String) (after : Array Edge) (guard : Option (Nat × Bool)) :
    execOp ρ { dst, op := .load 49 x, type := ty, pos, after, guard } = recLoad 49 (ρ x) := rfl
theorem post_execStore (ρ : Operand → Value) (dst : Option Tmp) (x y : Operand) (ty : TypeId) (pos : String) (after : Array Edge) (guard : Option (Nat × Bool)) :
    execOp ρ { dst, op := .store 49 x y, type := ty, pos, after, guard } = recStore 49 (ρ x) (ρ y) := rfl
theorem post_load (w : World) (b o : Nat) (h : okL 10 w b o) : (recLoad 49 (.pointer (some ⟨b, o, none⟩))).run Tryd.prog w = .ok (.value (.agg (loL 10 w b o).toArray)) w := by
  unfold recLoad
  rw [Sem.run_bind, run_load_rec 10 Tryd.underlying49 rfl (by kernel_rfl) w b o h]
  rfl
theorem post_store (w : World) (b o : Nat) (cs : List Value) (ht : w.there b o 10) (hn : cs.length = 10) (h1 : cs.all (·.oneCell') = true) :
    (recStore 49 (.pointer (some ⟨b, o, none⟩)) (.agg cs.toArray)).run Tryd.prog w = .ok .skip (w.setCells b o cs) := by
  unfold recStore
  rw [Sem.run_bind, run_store_rec 10 (by kernel_rfl) w b o cs ht hn h1]
  rfl
attribute [local go_sem ↓] post_execLoad post_execStore

attribute [local go_sem] post_load post_store loL_drew okL_drew there_sc World.there_drew

theorem Pst.cells_length (x : Pst) : x.cells.length = 10 := rfl
theorem Pst.cells_one (x : Pst) : ∀ v ∈ x.cells, v.oneCell' = true := by
  intro u hu
  simp [Pst.cells] at hu
  rcases hu with h | h | h | h | h | h | h | h | h | h <;> subst h <;> rfl

set_option maxRecDepth 100000 in
set_option maxHeartbeats 1000000 in
theorem swapRange_any (P x Y z Q : List Pst) (cf : Value) (g cap : Nat) (w : World) (hxz : x.length = z.length) (hcap : (P ++ x ++ Y ++ z ++ Q).length ≤ cap) (hmax : (P ++ x ++ Y ++ z ++ Q).length ≤ 1099511627776)
    (h : RowL Pst.cells 10 w g (P ++ x ++ Y ++ z ++ Q)) :
    Calls Tryd.prog 186 #[.slice (some ⟨g, 0, none⟩) (P ++ x ++ Y ++ z ++ Q).length cap, .int .i64 (P.length : Int), .int .i64 ((P ++ x ++ Y).length : Int), .int .i64 (x.length : Int), cf] w
      fun e w' => e = .returned (.tuple #[]) ∧ RowL Pst.cells 10 w' g (P ++ z ++ Y ++ x ++ Q) ∧ Only g w w' := by
  generalize hN : (P ++ x ++ Y ++ z ++ Q).length = N at *
  generalize ha : P.length = a at *
  generalize hb : (P ++ x ++ Y).length = b at *
  generalize hn : x.length = n at *
  have HH := Lib.hid h; clear h
  have hab : a + n ≤ b := by rw [← hb, ← ha, ← hn]; simp
  have hbn : b + n ≤ N := by rw [← hb, ← hN, hxz]; simp; omega
  have HB := Lib.hid hb; clear hb
  have HA := Lib.hid ha; clear ha
  have HX := Lib.hid hn; clear hn
  have HZ := Lib.hid hxz; clear hxz
  clear hN
  go_enter Tryd.func186, Tryd.ntmps186
  go_wp2
  go_loopw [10] (fun i wr => ∃ (k : Nat) (x1 x2 z1 z2 : List Pst), k ≤ n ∧ i = .int .i64 k ∧ x1.length = k ∧ z1.length = k ∧ x = x1 ++ x2 ∧ z = z1 ++ z2 ∧ RowL Pst.cells 10 wr g (P ++ z1 ++ x2 ++ Y ++ x1 ++ z2 ++ Q) ∧ Only g w wr) (fun i _ => n - (intOf i).toNat)
  case atStart => exact ⟨0, [], x, [], z, Nat.zero_le _, rfl, rfl, rfl, rfl, rfl, by simpa using HH.out, Only.refl _ _⟩
  case round =>
    obtain ⟨k, x1, x2, z1, z2, hk, rfl, e1, e2, e3, e4, hrow, hon⟩ := hrel
    have HON := Lib.hid hon; clear hon
    have HROW := Lib.hid hrow; clear hrow
    have E1 := Lib.hid e1; have E2 := Lib.hid e2; have E3 := Lib.hid e3; have E4 := Lib.hid e4; clear e1 e2 e3 e4
    by_cases hlt : k < n
    · obtain ⟨u, x2, rfl⟩ : ∃ u r, x2 = u :: r := by
        cases x2 with
        | nil => have := HX.out; rw [E3.out] at this; simp at this; have := E1.out; omega
        | cons u r => exact ⟨u, r, rfl⟩
      obtain ⟨v, z2, rfl⟩ : ∃ u r, z2 = u :: r := by
        cases z2 with
        | nil => have := HZ.out; rw [E4.out] at this; simp at this; have := E2.out; omega
        | cons u r => exact ⟨u, r, rfl⟩
      have hL : P ++ z1 ++ u :: x2 ++ Y ++ x1 ++ v :: z2 ++ Q = (P ++ z1) ++ u :: ((x2 ++ Y ++ x1) ++ v :: (z2 ++ Q)) := by simp
      have hla : (P ++ z1).length = a + k := by rw [List.length_append, HA.out, E2.out]
      have hlb : (P ++ z1).length + 1 + (x2 ++ Y ++ x1).length = b + k := by
        rw [hla]; have h1 := HB.out; rw [E3.out] at h1; have h2 := E1.out; have h3 := HA.out; simp at h1 ⊢; omega
      have HR : Hid (RowL Pst.cells 10 wr g ((P ++ z1) ++ u :: ((x2 ++ Y ++ x1) ++ v :: (z2 ++ Q)))) := Lib.hid (by rw [← hL]; exact HROW.out)
      have hat := at_mid (P ++ z1) (x2 ++ Y ++ x1) (z2 ++ Q) u v
      have g1 := HR.out.1 _ _ hat.1
      have g2 := HR.out.1 _ _ hat.2
      have g3 := HR.out.2 _ (List.getElem?_eq_some_iff.1 hat.1).1
      have g4 := HR.out.2 _ (List.getElem?_eq_some_iff.1 hat.2).1
      rw [hlb] at g2 g4
      rw [hla] at g1 g3
      obtain ⟨p, hp⟩ : ∃ p, p = a + k := ⟨_, rfl⟩
      obtain ⟨q, hq⟩ : ∃ q, q = b + k := ⟨_, rfl⟩
      rw [← hp] at g1 g3
      rw [← hq] at g2 g4
      have hs1 : IntKind.i64.wrap ((a : Int) + (k : Int)) = (p : Int) := by rw [IntKind.wrap_i64]; omega
      have hs2 : IntKind.i64.wrap ((b : Int) + (k : Int)) = (q : Int) := by rw [IntKind.wrap_i64]; omega
      have hpN : (p : Int) < (N : Int) := by omega
      have hqN : (q : Int) < (N : Int) := by omega
      have hp0 : (0 : Int) ≤ (p : Int) := by omega
      have hq0 : (0 : Int) ≤ (q : Int) := by omega
      have hpq : p * 10 + 10 ≤ q * 10 := by omega
      have HP := Lib.hid hp; have HQ := Lib.hid hq; have HLA := Lib.hid hla; have HLB := Lib.hid hlb
      clear hp hq hla hlb hL hat
      have hl1 := Pst.cells_length u
      have hl2 := Pst.cells_length v
      have ho1 : u.cells.all (·.oneCell') = true := List.all_eq_true.2 (Pst.cells_one u)
      have ho2 : v.cells.all (·.oneCell') = true := List.all_eq_true.2 (Pst.cells_one v)
      generalize hcu : u.cells = cu at *
      generalize hcv : v.cells = cv at *
      have HCU := Lib.hid hcu; have HCV := Lib.hid hcv; clear hcu hcv
      obtain ⟨f1, f2⟩ := loL_of g1 hl1
      obtain ⟨f3, f4⟩ := loL_of g2 hl2
      clear g1 g2
      go_wp2_with fail
      go_region
      go_wp2
      go_roundw
      case rel =>
        refine ⟨k + 1, x1 ++ [u], x2, z1 ++ [v], z2, by omega, by go_num, by simp [E1.out], by simp [E2.out], by rw [E3.out]; simp, by rw [E4.out]; simp, ?_, (HON.out.drew.setCells _ _).setCells _ _⟩
        have h1 := RowL.swap (w := wr.drew) Pst.cells_length HR.out
        rw [HLB.out, HLA.out, HCU.out, HCV.out, ← HP.out, ← HQ.out] at h1
        simpa using h1
      case measure => simp [intOf]; omega
    · obtain rfl : k = n := by omega
      go_wp2
      go_end0
      refine ⟨rfl, ?_, HON.out⟩
      have e1 : x2 = [] := by have h1 := HX.out; rw [E3.out] at h1; have h2 := E1.out; simp at h1; exact List.length_eq_zero_iff.1 (by omega)
      have e2 : z2 = [] := by have h1 := HZ.out; rw [E4.out] at h1; have h2 := E2.out; simp at h1; exact List.length_eq_zero_iff.1 (by omega)
      have h1 := HROW.out
      rw [e1, e2] at h1
      rw [E3.out, E4.out, e1, e2]
      simpa using h1
end Go.Proofs.YtellhmbebimenaaDoor
end

section
set_option linter.unusedVariables false
set_option linter.unusedSimpArgs false
namespace Go.Proofs.YtellhmbebimenaaDoor
open Go.RowKit
attribute [local go_sem ↓] post_execLoad post_execStore

attribute [local go_sem] post_load post_store loL_drew okL_drew there_sc World.there_drew

/-- a posting's key as one number -/
def keyP (x : Pst) : Int := x.t * 36893488147419103232 + x.s
theorem ord_key {x y : Pst} (hx : x.wf) (hy : y.wf) : ordI x y < 0 ↔ keyP x < keyP y := by
  have h1 : -9223372036854775808 ≤ x.s ∧ x.s ≤ 9223372036854775807 := by
    have := hx.2.2.1; simpa [Lit.wf, IntKind.min, IntKind.max, IntKind.signed, IntKind.bits] using this
  have h2 : -9223372036854775808 ≤ y.s ∧ y.s ≤ 9223372036854775807 := by
    have := hy.2.2.1; simpa [Lit.wf, IntKind.min, IntKind.max, IntKind.signed, IntKind.bits] using this
  have h := ord_less x y
  unfold lessP at h
  have h' : ordI x y < 0 ↔ (x.t < y.t ∨ x.t = y.t ∧ x.s < y.s) := by
    rw [← decide_eq_true_iff (p := ordI x y < 0), h]; simp
  rw [h']
  unfold keyP
  omega
def cmpV : Value := .func (.func 162) #[] #[]
theorem order_cells (x y : Pst) (w : World) : Calls Tryd.prog 162 #[.agg x.cells.toArray, .agg y.cells.toArray] w fun e w' => e = .returned (.int .i64 (ordI x y)) ∧ Below w.heap.size w w' := order_any x y w

theorem loL_below {n : Nat} {w w' : World} {g o : Nat} (hg : g < w.heap.size) (hb : Below w.heap.size w w') : loL n w' g o = loL n w g o := by
  unfold loL
  refine List.map_congr_left fun j _ => ?_
  rw [hb.cell (p := ⟨g, o + j, none⟩) hg]
theorem okL_below {n : Nat} {w w' : World} {g o : Nat} (hg : g < w.heap.size) (hb : Below w.heap.size w w') (h : okL n w g o) : okL n w' g o := by
  intro j hj
  rw [hb.cell (p := ⟨g, o + j, none⟩) hg]
  exact h j hj
theorem okL_block {n : Nat} {w : World} {g o : Nat} (h : okL n w g o) (hn : 0 < n) : g < w.heap.size := by
  obtain ⟨u, hu⟩ := Option.isSome_iff_exists.1 (h 0 hn)
  exact cell_blockW hu

set_option maxRecDepth 100000 in
set_option maxHeartbeats 1000000 in
theorem rotate_any (P x y Q : List Pst) (cf : Value) (g cap : Nat) (w : World) (hx : 0 < x.length) (hy : 0 < y.length) (hcap : (P ++ x ++ y ++ Q).length ≤ cap) (hmax : (P ++ x ++ y ++ Q).length ≤ 1099511627776)
    (h : RowL Pst.cells 10 w g (P ++ x ++ y ++ Q)) :
    Calls Tryd.prog 185 #[.slice (some ⟨g, 0, none⟩) (P ++ x ++ y ++ Q).length cap, .int .i64 (P.length : Int), .int .i64 ((P ++ x).length : Int), .int .i64 ((P ++ x ++ y).length : Int), cf] w
      fun e w' => e = .returned (.tuple #[]) ∧ RowL Pst.cells 10 w' g (P ++ y ++ x ++ Q) ∧ Only g w w' := by
  generalize hN : (P ++ x ++ y ++ Q).length = N at *
  generalize ha : P.length = a at *
  generalize hm : (P ++ x).length = m at *
  generalize hb : (P ++ x ++ y).length = b at *
  have e1 : m = a + x.length := by rw [← hm, ← ha]; simp
  have e2 : b = m + y.length := by rw [← hb, ← hm]; simp; omega
  have e3 : b ≤ N := by rw [← hb, ← hN]; simp
  generalize hX : x.length = xn at *
  generalize hY : y.length = yn at *
  have HH := Lib.hid h; clear h
  have HN := Lib.hid hN; have HA := Lib.hid ha; have HX := Lib.hid hX; have HY := Lib.hid hY
  clear hN ha hX hY hm hb
  have hs1 : IntKind.i64.wrap ((m : Int) - (a : Int)) = (xn : Int) := by rw [IntKind.wrap_i64]; omega
  have hs2 : IntKind.i64.wrap ((b : Int) - (m : Int)) = (yn : Int) := by rw [IntKind.wrap_i64]; omega
  have E1 := Lib.hid e1; have E2 := Lib.hid e2
  have hm0 : xn ≤ m := by omega
  have hb0 : m + yn ≤ N := by omega
  clear e1 e2
  go_enter Tryd.func185, Tryd.ntmps185
  go_wp2
  go_loopw [10, 11] (fun i j wr => ∃ (p u v q : List Pst), 0 < u.length ∧ 0 < v.length ∧ i = .int .i64 (u.length : Int) ∧ j = .int .i64 (v.length : Int) ∧ p.length + u.length = m ∧ (p ++ u ++ v ++ q).length = N ∧
      p ++ v ++ u ++ q = P ++ y ++ x ++ Q ∧ RowL Pst.cells 10 wr g (p ++ u ++ v ++ q) ∧ Only g w wr) (fun i j _ => ((intOf i) + (intOf j)).toNat)
  case atStart => exact ⟨P, x, y, Q, by rw [HX.out]; exact hx, by rw [HY.out]; exact hy, by rw [HX.out], by rw [HY.out], by rw [HA.out, HX.out]; exact E1.out.symm, HN.out, rfl, HH.out, Only.refl _ _⟩
  case round =>
    obtain ⟨p, u, v, q, hu, hv, rfl, rfl, hpu, hlen, hfin, hrow, hon⟩ := hrel
    have HFIN := Lib.hid hfin; have HROW := Lib.hid hrow; have HON := Lib.hid hon; have HLEN := Lib.hid hlen; have HPU := Lib.hid hpu
    clear hfin hrow hon hpu
    have hle : u.length + v.length ≤ N := by rw [← hlen]; simp; omega
    clear hlen
    generalize hun : u.length = un at *
    generalize hvn : v.length = vn at *
    generalize hpn : p.length = pn at *
    have HUN := Lib.hid hun; have HVN := Lib.hid hvn; have HPN := Lib.hid hpn
    clear hun hvn hpn
    have hpm : pn + un = m := HPU.out
    have hs3 : IntKind.i64.wrap ((m : Int) - (un : Int)) = (pn : Int) := by rw [IntKind.wrap_i64]; omega
    rcases (by omega : un = vn ∨ vn < un ∨ un < vn) with he | he | he
    · have HE := Lib.hid he
      subst he
      have HS := Lib.hid (swapRange_any p u [] v q cf g cap wr (by rw [HUN.out, HVN.out]) (by have := HLEN.out; simp at this ⊢; omega) (by have := HLEN.out; simp at this ⊢; omega) (by simpa using HROW.out))
      have q1 : (p ++ u ++ []).length = m := by simp [HPN.out, HUN.out]; omega
      have q2 : (p ++ u ++ [] ++ v ++ q).length = N := by rw [← HLEN.out]; simp
      rw [HPN.out, HUN.out, q1, q2] at HS
      clear q1 q2
      clear hpm
      go_wp2_with fail
      refine HS.out.mono ?_
      rintro e w1 ⟨rfl, hr1, ho1⟩
      have HR1 := Lib.hid hr1; have HO1 := Lib.hid ho1; clear hr1 ho1
      go_wp2
      go_end0
      exact ⟨rfl, by rw [← HFIN.out]; simpa using HR1.out, HON.out.trans HO1.out⟩
    · obtain ⟨u1, u2, rfl, hu1⟩ : ∃ u1 u2, u = u1 ++ u2 ∧ u1.length = vn := ⟨u.take vn, u.drop vn, (List.take_append_drop _ _).symm, by rw [List.length_take, HUN.out]; omega⟩
      have hu2 : u2.length = un - vn := by have := HUN.out; simp at this; omega
      have HS := Lib.hid (swapRange_any p u1 u2 v q cf g cap wr (by rw [hu1, HVN.out]) (by have := HLEN.out; simp at this ⊢; omega) (by have := HLEN.out; simp at this ⊢; omega) (by simpa using HROW.out))
      have q1 : (p ++ u1 ++ u2).length = m := by simp [HPN.out, hu1, hu2]; omega
      have q2 : (p ++ u1 ++ u2 ++ v ++ q).length = N := by rw [← HLEN.out]; simp
      rw [HPN.out, hu1, q1, q2] at HS
      clear q1 q2
      have HU1 := Lib.hid hu1; have HU2 := Lib.hid hu2; clear hu1 hu2
      obtain ⟨dn, hdn⟩ : ∃ dn, dn = un - vn := ⟨_, rfl⟩
      have hs4 : IntKind.i64.wrap ((un : Int) - (vn : Int)) = (dn : Int) := by rw [IntKind.wrap_i64]; omega
      have HPM := Lib.hid hpm; clear hpm
      have HDN := Lib.hid hdn; clear hdn
      go_wp2_with fail
      refine HS.out.mono ?_
      rintro e w1 ⟨rfl, hr1, ho1⟩
      have HR1 := Lib.hid hr1; have HO1 := Lib.hid ho1; clear hr1 ho1
      go_wp2
      go_roundw
      case rel =>
        have hd := HDN.out
        have hpm := HPM.out
        refine ⟨p ++ v, u2, u1, q, by rw [HU2.out]; omega, by rw [HU1.out]; omega, by rw [HU2.out, hd], by rw [HU1.out], by simp [HPN.out, HVN.out, HU2.out]; omega, by rw [← HLEN.out]; simp; omega, by rw [← HFIN.out]; simp, by simpa using HR1.out, HON.out.trans HO1.out⟩
      case measure => have := HDN.out; simp [intOf]; omega
    · obtain ⟨v1, v2, rfl, hv1⟩ : ∃ v1 v2, v = v1 ++ v2 ∧ v1.length = vn - un := ⟨v.take (vn - un), v.drop (vn - un), (List.take_append_drop _ _).symm, by rw [List.length_take, HVN.out]; omega⟩
      have hv2 : v2.length = un := by have := HVN.out; simp at this; omega
      have HS := Lib.hid (swapRange_any p u v1 v2 q cf g cap wr (by rw [hv2, HUN.out]) (by have := HLEN.out; simp at this ⊢; omega) (by have := HLEN.out; simp at this ⊢; omega) (by simpa using HROW.out))
      obtain ⟨dn, hdn⟩ : ∃ dn, dn = vn - un := ⟨_, rfl⟩
      have q1 : (p ++ u ++ v1).length = m + dn := by simp [HPN.out, HUN.out, hv1]; omega
      have q2 : (p ++ u ++ v1 ++ v2 ++ q).length = N := by rw [← HLEN.out]; simp
      rw [HPN.out, HUN.out, q1, q2] at HS
      clear q1 q2
      obtain ⟨sn, hsn⟩ : ∃ sn, sn = m + dn := ⟨_, rfl⟩
      rw [← hsn] at HS
      have HV1 := Lib.hid hv1; have HV2 := Lib.hid hv2; clear hv1 hv2
      have hs4 : IntKind.i64.wrap ((vn : Int) - (un : Int)) = (dn : Int) := by rw [IntKind.wrap_i64]; omega
      obtain ⟨tn, htn⟩ : ∃ tn, tn = m + vn := ⟨_, rfl⟩
      have hs5 : IntKind.i64.wrap ((m : Int) + (vn : Int)) = (tn : Int) := by rw [IntKind.wrap_i64]; omega
      have hs6 : IntKind.i64.wrap ((tn : Int) - (un : Int)) = (sn : Int) := by rw [IntKind.wrap_i64]; omega
      have hnn : ¬ (vn : Int) < (un : Int) := by omega
      have hnn : ¬ vn < un := by omega
      have HPM := Lib.hid hpm; clear hpm
      have HDN := Lib.hid hdn; clear hdn
      have HSN := Lib.hid hsn; clear hsn
      have HTN := Lib.hid htn; clear htn
      go_wp2_with fail
      refine HS.out.mono ?_
      rintro e w1 ⟨rfl, hr1, ho1⟩
      have HR1 := Lib.hid hr1; have HO1 := Lib.hid ho1; clear hr1 ho1
      go_wp2
      go_roundw
      case rel =>
        have hd := HDN.out
        have hpm := HPM.out
        refine ⟨p, v2, v1, u ++ q, by rw [HV2.out]; omega, by rw [HV1.out]; omega, by rw [HV2.out], by rw [HV1.out, hd], by simp [HPN.out, HV2.out]; omega, by rw [← HLEN.out]; simp; omega, by rw [← HFIN.out]; simp, by simpa using HR1.out, HON.out.trans HO1.out⟩
      case measure => have := HDN.out; simp [intOf]; omega
end Go.Proofs.YtellhmbebimenaaDoor
end
