/- Contracts: the reference's Same of a list and itself, and its Sort. Plain law: totals of few postings that may be are the sums of their columns; these do not hang on the order, and those of two parts add up. Plain law of reports: rows in order, no two alike, are what a sorted list of postings that may be and are not alike is. -/
import Derived.Test.YtajpggnmhkpbkaaRfw27
import Derived.Test.YtajpggnmhkpbkaaRfw9
import Derived.Test.YtajpggnmhkpbkaaRfw12
import Derived.Test.YtajpggnmhkpbkaaRfw15

section
set_option linter.unusedVariables false
set_option linter.unusedSimpArgs false
namespace Go.Proofs.Ytajpggnmhkpbkaa
open Go.RowKit
attribute [local go_sem ↓] post_execLoad post_execStore

attribute [local go_sem] post_load post_store loL_drew okL_drew there_sc World.there_drew

set_option maxRecDepth 4000 in
theorem eqInP (x : Pst) (w : World) : (Op.equalIn 10000 68 (.agg x.cells.toArray) (.agg x.cells.toArray)).run Try.prog w = .ok true w := by
  have hS : Try.prog.underlying 68 = some (.struct (Try.prog.fieldsOf 68)) := by kernel_rfl
  have hp : Try.prog.stoodInHeld 68 = false := by kernel_rfl
  unfold Pst.cells
  rw [show (10000 : Nat) = 9999 + 1 from rfl, run_equalIn_agg w 9999 68 _ _ hS hp]
  simp only [Program.fieldsOf, Try.underlying68]
  go_simp
theorem guardPn (x y : Operand) (xs ys : Array Value) (w : World) : (eqGuard .neq 68 x y (.agg xs) (.agg ys)).run Try.prog w = .ok () w := run_eqGuard_agg w _ _ _ _ _ _ (by kernel_rfl)

set_option maxRecDepth 4000 in
set_option maxHeartbeats 400000 in
theorem rSame_any (l : List Pst) (p p' : Option Addr) (n cap cap' : Nat) (w : World) (hs : LS Pst.cells 10 w (.slice p n cap) l) (hs' : LS Pst.cells 10 w (.slice p' n cap') l) :
    Calls Try.prog 50 #[.slice p n cap, .slice p' n cap'] w fun e w' => e = .returned (.bool true) ∧ Below w.heap.size w w' := by
  have HL := Lib.hid hs.length
  have HS := Lib.hid hs; have HS' := Lib.hid hs'
  have hmax : n ≤ 9223372036854775807 := by have h1 := HL.out.2.1; have h2 := HL.out.2.2; simp only [maxLen] at h2; omega
  clear hs hs'
  go_enter Try.func50, Try.ntmps50
  go_wp2
  go_loopw [5] (fun i wr => ∃ k : Nat, k ≤ n ∧ i = .int .i64 k ∧ Below w.heap.size w wr) (fun i _ => n - (intOf i).toNat)
  case atStart => exact ⟨0, Nat.zero_le _, rfl, Below.refl _ _⟩
  case round =>
    obtain ⟨k, hk, rfl, hbw⟩ := hrel
    have HBW := Lib.hid hbw
    by_cases hlt : k < n
    · obtain ⟨x, hx⟩ : ∃ x, l[k]? = some x := ⟨_, List.getElem?_eq_getElem (by have := HL.out.1; omega)⟩
      obtain ⟨b, o, rfl, hb, hr⟩ := (HS.out.below hbw).at hx
      obtain ⟨b', o', rfl, hb', hr'⟩ := (HS'.out.below hbw).at hx
      obtain ⟨f1, f2⟩ := loL_of hr (Pst.cells_length x)
      obtain ⟨f3, f4⟩ := loL_of hr' (Pst.cells_length x)
      have hE := fun W => eqInP x W
      have hG := guardPn
      generalize x.cells = cx at *
      clear hx hr hr' hbw
      go_wp2_with fail
      go_region
      go_wp2
      go_roundw
      case rel => exact ⟨k + 1, by omega, by go_num, HBW.out.drew⟩
      case measure => simp [intOf]; omega
    · obtain rfl : k = n := by omega
      go_wp2
      go_ret
      exact ⟨rfl, HBW.out⟩

theorem ahead_cells (x y : Pst) (w : World) : Calls Try.prog 94 #[.agg x.cells.toArray, .agg y.cells.toArray] w fun e w' => e = .returned (.bool (lessP x y)) ∧ Below w.heap.size w w' := ahead_any x y w
theorem less_key {x y : Pst} (hx : x.wf) (hy : y.wf) : lessP x y = true ↔ keyP x < keyP y := by
  rw [← ord_key hx hy, ← ord_less x y]
  simp
end Go.Proofs.Ytajpggnmhkpbkaa
end

section
set_option linter.unusedVariables false
namespace Go.Proofs.Ytajpggnmhkpbkaa
theorem Srt.Mix.perm {α : Type} {key : α → Int} {x y : List α} (h : Srt.Mix key x y) : x.Perm y := by
  classical
  refine List.perm_iff_count.2 fun a => ?_
  have h1 := h.2 (key a)
  rw [← List.count_filter (p := fun e => key e == key a) (l := x) (by simp), h1, List.count_filter (by simp)]
namespace Post
/-- a column's sum -/
def colS (f : Pst → Int) : List Pst → Int
  | [] => 0
  | p :: l => f p + colS f l
theorem colS_append (f : Pst → Int) (x y : List Pst) : colS f (x ++ y) = colS f x + colS f y := by
  induction x with
  | nil => simp [colS]
  | cons p x ih => rw [List.cons_append, colS, colS, ih]; omega
theorem colS_perm (f : Pst → Int) {x y : List Pst} (h : x.Perm y) : colS f x = colS f y := by
  induction h with
  | nil => rfl
  | cons p _ ih => rw [colS, colS, ih]
  | swap p q l => rw [colS, colS, colS, colS]; omega
  | trans _ _ h1 h2 => rw [h1, h2]
theorem may_each {p : Pst} (h : p.may = true) : (-1125899906842624 ≤ p.a0 ∧ p.a0 ≤ 1125899906842624) ∧ (-1125899906842624 ≤ p.a1 ∧ p.a1 ≤ 1125899906842624) ∧ (-1125899906842624 ≤ p.a2 ∧ p.a2 ≤ 1125899906842624) ∧
    (-1125899906842624 ≤ p.a3 ∧ p.a3 ≤ 1125899906842624) ∧ (-1125899906842624 ≤ p.a4 ∧ p.a4 ≤ 1125899906842624) ∧ (-1125899906842624 ≤ p.a5 ∧ p.a5 ≤ 1125899906842624) := by
  have hb := may_bound h
  exact ⟨any_in hb (by simp [Pst.am]), any_in hb (by simp [Pst.am]), any_in hb (by simp [Pst.am]), any_in hb (by simp [Pst.am]), any_in hb (by simp [Pst.am]), any_in hb (by simp [Pst.am])⟩
theorem colS_bound (f : Pst → Int) {l : List Pst} (h : ∀ p ∈ l, -1125899906842624 ≤ f p ∧ f p ≤ 1125899906842624) : -(l.length * 1125899906842624 : Int) ≤ colS f l ∧ colS f l ≤ (l.length * 1125899906842624 : Int) := by
  induction l with
  | nil => simp [colS]
  | cons p l ih =>
    have h1 := h p (by simp)
    have h2 := ih fun q hq => h q (by simp [hq])
    rw [colS, List.length_cons]
    omega
theorem run_cols : ∀ (l : List Pst) (x0 x1 x2 x3 x4 x5 : Int), (∀ p ∈ l, p.may = true) →
    (∀ z, z = x0 ∨ z = x1 ∨ z = x2 ∨ z = x3 ∨ z = x4 ∨ z = x5 → -(1152921504606846976 - l.length * 1125899906842624 : Int) ≤ z ∧ z ≤ (1152921504606846976 - l.length * 1125899906842624 : Int)) →
    run [x0, x1, x2, x3, x4, x5] (l.map Pst.am) = some [x0 + colS (·.a0) l, x1 + colS (·.a1) l, x2 + colS (·.a2) l, x3 + colS (·.a3) l, x4 + colS (·.a4) l, x5 + colS (·.a5) l] := by
  intro l
  induction l with
  | nil => intro x0 x1 x2 x3 x4 x5 _ _; simp [run, colS]
  | cons p l ih =>
    intro x0 x1 x2 x3 x4 x5 hm hb
    obtain ⟨m0, m1, m2, m3, m4, m5⟩ := may_each (hm p (by simp))
    have b0 := hb x0 (by simp); have b1 := hb x1 (by simp); have b2 := hb x2 (by simp); have b3 := hb x3 (by simp); have b4 := hb x4 (by simp); have b5 := hb x5 (by simp)
    simp only [List.length_cons] at b0 b1 b2 b3 b4 b5
    rw [List.map_cons, run]
    have hadd : addAm [x0, x1, x2, x3, x4, x5] p.am = [x0 + p.a0, x1 + p.a1, x2 + p.a2, x3 + p.a3, x4 + p.a4, x5 + p.a5] := rfl
    rw [hadd, if_neg]
    · rw [ih _ _ _ _ _ _ (fun q hq => hm q (by simp [hq])) (by
        intro z hz
        rcases hz with rfl | rfl | rfl | rfl | rfl | rfl <;> omega)]
      simp only [colS, Int.add_assoc]
    · simp only [List.any_cons, List.any_nil, outB, Bool.or_eq_true, decide_eq_true_eq, Bool.false_eq_true, or_false]
      omega
theorem sums_cols {l : List Pst} (hm : ∀ p ∈ l, p.may = true) (hl : l.length ≤ 60) :
    sums l = ⟨0, l.length, [colS (·.a0) l, colS (·.a1) l, colS (·.a2) l, colS (·.a3) l, colS (·.a4) l, colS (·.a5) l]⟩ := by
  have h := run_cols l 0 0 0 0 0 0 hm (by intro z hz; have : z = 0 := by simpa using hz
                                          subst this; omega)
  simp only [Int.zero_add] at h
  refine sums_are ?_ h
  rw [List.any_eq_false]
  intro p hp
  simp [hm p hp]
end Post
end Go.Proofs.Ytajpggnmhkpbkaa
end

section
set_option linter.unusedVariables false
namespace Go.Proofs.Ytajpggnmhkpbkaa
namespace Rep
/-- may each be, and is each one below the next? -/
def RisP (l : List Pst) : Prop := (∀ p ∈ l, p.may = true) ∧ ∀ (i : Nat) (x y : Pst), l[i]? = some x → l[i + 1]? = some y → lessP x y = true
/-- may each be, and are no two alike? -/
def alike (x y : Pst) : Bool := decide (x.t = y.t) && decide (x.s = y.s)
def FineP (l : List Pst) : Prop := (∀ p ∈ l, p.may = true) ∧ ∀ (i j : Nat) (x y : Pst), j < i → l[i]? = some x → l[j]? = some y → alike x y = false
def within (a b : Int) (p : Pst) : Bool := decide (a ≤ p.d) && decide (p.d ≤ b)
def days (a b : Int) : Bool := decide (0 ≤ a) && decide (a ≤ b) && decide (b ≤ 1000000)

theorem less_keyP {x y : Pst} (hx : x.wf) (hy : y.wf) : lessP x y = true ↔ keyP x < keyP y := by
  rw [← ord_key hx hy, ← ord_less x y]
  simp
theorem alike_key {x y : Pst} (hx : x.wf) (hy : y.wf) : alike x y = true ↔ keyP x = keyP y := by
  have h1 := less_keyP hx hy
  have h2 := less_keyP hy hx
  unfold alike
  unfold lessP at h1 h2
  simp only [Bool.or_eq_true, Bool.and_eq_true, decide_eq_true_eq] at h1 h2 ⊢
  omega
theorem alike_comm (x y : Pst) : alike x y = alike y x := by
  unfold alike
  rw [Bool.eq_iff_iff]
  simp only [Bool.and_eq_true, decide_eq_true_eq]
  constructor <;> (rintro ⟨h1, h2⟩; exact ⟨h1.symm, h2.symm⟩)
theorem fine_pairwise (l : List Pst) : FineP l ↔ (∀ p ∈ l, p.may = true) ∧ l.Pairwise (fun x y => alike x y = false) := by
  have hsym := alike_comm
  unfold FineP
  refine and_congr_right fun _ => ?_
  rw [List.pairwise_iff_getElem]
  constructor
  · intro h i j hi hj hij
    rw [hsym]
    exact h j i _ _ hij (List.getElem?_eq_getElem hj) (List.getElem?_eq_getElem hi)
  · intro h i j x y hij hx hy
    obtain ⟨hi, e1⟩ := List.getElem?_eq_some_iff.1 hx
    obtain ⟨hj, e2⟩ := List.getElem?_eq_some_iff.1 hy
    have := h j i hj hi hij
    rw [e1, e2] at this
    rw [hsym]
    exact this
theorem fine_perm {x y : List Pst} (h : x.Perm y) : FineP x ↔ FineP y := by
  rw [fine_pairwise, fine_pairwise]
  have hsym : ∀ {a b : Pst}, alike a b = false → alike b a = false := fun {a b} h => by rw [alike_comm]; exact h
  rw [h.pairwise_iff hsym]
  exact and_congr_left fun _ => ⟨fun h1 p hp => h1 p (h.mem_iff.2 hp), fun h1 p hp => h1 p (h.mem_iff.1 hp)⟩
/-- of a sorted list -/
theorem ris_fine {s : List Pst} (hw : WF s) (hu : Srt.Up keyP s) : RisP s ↔ FineP s := by
  refine and_congr_right fun _ => ⟨fun h i j x y hij hx hy => ?_, fun h i x y hx hy => ?_⟩
  · have hxw := hw x (List.mem_of_getElem? hx)
    have hyw := hw y (List.mem_of_getElem? hy)
    obtain ⟨z, hz⟩ : ∃ z, s[j + 1]? = some z := ⟨_, List.getElem?_eq_getElem (by have := (List.getElem?_eq_some_iff.1 hx).1; omega)⟩
    have h1 := (less_keyP hyw (hw z (List.mem_of_getElem? hz))).1 (h j y z hy hz)
    have h2 := hu.at (i := j + 1) (j := i) (by omega) hz hx
    have h3 := alike_key hxw hyw
    cases ha : alike x y
    · rfl
    · have := h3.1 ha; omega
  · have hxw := hw x (List.mem_of_getElem? hx)
    have hyw := hw y (List.mem_of_getElem? hy)
    have h1 := h (i + 1) i y x (by omega) hy hx
    have h2 := hu.at (i := i) (j := i + 1) (by omega) hx hy
    have h3 := alike_key hyw hxw
    refine (less_keyP hxw hyw).2 ?_
    have : keyP y ≠ keyP x := fun e => by rw [h3.2 e] at h1; cases h1
    omega
theorem ris_of {l s : List Pst} (hw : WF l) (hm : Srt.Mix keyP l s) (hu : Srt.Up keyP s) : RisP s ↔ FineP l := by
  rw [ris_fine (fun e he => hw e (hm.symm.mem he)) hu]
  exact (fine_perm hm.perm).symm
/-- those of some days, sorted: the same whether sorted ahead or behind -/
theorem Up.filter {s : List Pst} (h : Srt.Up keyP s) (q : Pst → Bool) : Srt.Up keyP (s.filter q) := List.Pairwise.filter _ h
theorem Mix.filter {l s : List Pst} (h : Srt.Mix keyP l s) (q : Pst → Bool) : Srt.Mix keyP (l.filter q) (s.filter q) := by
  refine ⟨(h.perm.filter q).length_eq, fun k => ?_⟩
  rw [List.filter_filter, List.filter_filter]
  have h1 : ∀ z : List Pst, z.filter (fun e => (keyP e == k) && q e) = (z.filter (fun e => keyP e == k)).filter q := fun z => by
    rw [List.filter_filter]
    refine List.filter_congr fun e _ => Bool.and_comm _ _
  rw [h1, h1, h.2 k]
/-- are two postings the same? -/
def sameP (x y : Pst) : Bool := x.d == y.d && (x.t == y.t && (x.s == y.s && (x.k == y.k && (x.a0 == y.a0 && (x.a1 == y.a1 && (x.a2 == y.a2 && (x.a3 == y.a3 && (x.a4 == y.a4 && (x.a5 == y.a5)))))))))
theorem sameP_iff (x y : Pst) : sameP x y = true ↔ x = y := by
  obtain ⟨d, t, s, k, a0, a1, a2, a3, a4, a5⟩ := x
  obtain ⟨d', t', s', k', b0, b1, b2, b3, b4, b5⟩ := y
  simp [sameP]
theorem fine_nodup {l : List Pst} (h : FineP l) : l.Nodup := by
  refine ((fine_pairwise l).1 h).2.imp ?_
  intro a b hab e
  subst e
  unfold alike at hab
  simp at hab
theorem count_one {α : Type} [BEq α] [LawfulBEq α] : ∀ (l : List α) (x : α), l.Nodup → x ∈ l → l.count x = 1 := by
  intro l x
  induction l with
  | nil => intro _ h; cases h
  | cons a l ih =>
    intro h hx
    obtain ⟨h1, h2⟩ := List.nodup_cons.1 h
    by_cases e : x = a
    · subst e
      rw [List.count_cons_self, List.count_eq_zero.2 h1]
    · rw [List.count_cons_of_ne (fun h => e h.symm)]
      exact ih h2 ((List.mem_cons.1 hx).resolve_left e)
theorem count_rows {l s : List Pst} {x : Pst} (hx : x ∈ l) (hm : Srt.Mix keyP l s) (hf : FineP l) (a b : Int) : ((s.filter (within a b)).filter (fun y => sameP y x)).length = if within a b x then 1 else 0 := by
  classical
  have h1 : ∀ z : List Pst, (z.filter (fun y => sameP y x)).length = z.count x := fun z => by
    rw [List.count_eq_countP, List.countP_eq_length_filter]
    congr 1
    refine List.filter_congr fun y _ => ?_
    rw [Bool.eq_iff_iff, sameP_iff]
    simp
  rw [h1]
  have h2 : s.count x = 1 := by
    rw [← hm.perm.count_eq]
    exact count_one _ _ (fine_nodup hf) hx
  by_cases hw : within a b x = true
  · rw [List.count_filter hw, h2, if_pos hw]
  · rw [if_neg hw, List.count_eq_zero]
    intro hmem
    exact hw (List.mem_filter.1 hmem).2
end Rep
end Go.Proofs.Ytajpggnmhkpbkaa
end
