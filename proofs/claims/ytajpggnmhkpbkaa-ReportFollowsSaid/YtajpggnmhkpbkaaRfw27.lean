/- Contracts: posting.Less, Same; the reference's Ahead. Contracts: slices.Clone, slices.SortStableFunc at postings; posting.Sort; the reference's Same of alike lists. -/
import Derived.Test.YtajpggnmhkpbkaaRfw12
import Derived.Test.YtajpggnmhkpbkaaRfw26
import Derived.WalkKit

section
set_option linter.unusedVariables false
set_option linter.unusedSimpArgs false
namespace Go.Proofs.Ytajpggnmhkpbkaa
open Go.RowKit

set_option maxHeartbeats 400000 in
theorem less_any (x y : Pst) (w : World) : Calls Try.prog 63 #[.agg x.arr, .agg y.arr] w fun e w' => e = .returned (.bool (lessP x y)) ∧ Below w.heap.size w w' := by
  have HO := Lib.hid (fun W => order_any x y W)
  have HL : Hid (decide (ordI x y < 0) = lessP x y) := Lib.hid (ord_less x y)
  generalize ordI x y = o at *
  generalize lessP x y = q at *
  have HB0 := Lib.hid (fun o o' => ((Below.refl w.heap.size w).alloc (Nat.le_refl _) o).alloc (by simp) o')
  obtain ⟨d, t, s, k, a0, a1, a2, a3, a4, a5⟩ := x
  obtain ⟨d', t', s', k', b0, b1, b2, b3, b4, b5⟩ := y
  unfold Pst.arr at *
  simp only at HO ⊢
  go_enter Try.func63, Try.ntmps63
  go_wp2_with fail
  refine (HO.out _).mono ?_
  rintro e w1 ⟨rfl, hb1⟩
  have HB := Lib.hid ((HB0.out _ _).trans (hb1.mono (by simp; omega)))
  clear hb1
  go_wp2
  go_ret
  exact ⟨ret_bool HL.out, HB.out⟩

set_option maxHeartbeats 400000 in
theorem ahead_any (x y : Pst) (w : World) : Calls Try.prog 94 #[.agg x.arr, .agg y.arr] w fun e w' => e = .returned (.bool (lessP x y)) ∧ Below w.heap.size w w' := by
  obtain ⟨d, t, s, k, a0, a1, a2, a3, a4, a5⟩ := x
  obtain ⟨d', t', s', k', b0, b1, b2, b3, b4, b5⟩ := y
  have HL : Hid (∀ q, (t ≠ t' → q = decide (t < t')) → (t = t' → q = decide (s < s')) → q = lessP ⟨d, t, s, k, a0, a1, a2, a3, a4, a5⟩ ⟨d', t', s', k', b0, b1, b2, b3, b4, b5⟩) := Lib.hid (fun q h1 h2 => by
    unfold lessP
    by_cases h : t = t'
    · rw [h2 h]; simp [h]
    · rw [h1 h]; simp [h])
  generalize lessP ⟨d, t, s, k, a0, a1, a2, a3, a4, a5⟩ ⟨d', t', s', k', b0, b1, b2, b3, b4, b5⟩ = r at *
  unfold Pst.arr
  simp only
  have HB := Lib.hid (fun o o' => ((Below.refl w.heap.size w).alloc (Nat.le_refl _) o).alloc (by simp) o')
  by_cases h : t = t'
  · have HR := Lib.hid (HL.out _ (fun h' => absurd h h') (fun _ => rfl))
    subst h
    go_enter Try.func94, Try.ntmps94
    go_wp2
    go_ret
    exact ⟨ret_bool HR.out, HB.out _ _⟩
  · have HR := Lib.hid (HL.out _ (fun _ => rfl) (fun h' => absurd h' h))
    go_enter Try.func94, Try.ntmps94
    go_wp2
    go_ret
    exact ⟨ret_bool HR.out, HB.out _ _⟩
theorem eqAny (x y : Pst) : ∃ q : Bool, ∀ w : World, (binOp .eql 68 (.agg x.arr) (.agg y.arr)).run Try.prog w = .ok (.bool q) w := by
  refine ⟨(x.d == y.d && (x.t == y.t && (x.s == y.s && (x.k == y.k && (x.a0 == y.a0 && (x.a1 == y.a1 && (x.a2 == y.a2 && (x.a3 == y.a3 && (x.a4 == y.a4 && (x.a5 == y.a5)))))))))), fun w => ?_⟩
  have hS : Try.prog.underlying 68 = some (.struct (Try.prog.fieldsOf 68)) := by kernel_rfl
  have hp : Try.prog.stoodInHeld 68 = false := by kernel_rfl
  unfold Pst.arr
  rw [run_eql_struct, show (10000 : Nat) = 9999 + 1 from rfl, run_equalIn_agg w 9999 68 _ _ hS hp]
  simp only [Program.fieldsOf, Try.underlying68]
  go_simp
  repeat' split
  all_goals simp [*]
theorem guardPst' (x y : Operand) (xs ys : Array Value) (w : World) : (eqGuard .eql 68 x y (.agg xs) (.agg ys)).run Try.prog w = .ok () w := run_eqGuard_agg w _ _ _ _ _ _ (by kernel_rfl)
end Go.Proofs.Ytajpggnmhkpbkaa
end

section
set_option linter.unusedVariables false
set_option linter.unusedSimpArgs false
namespace Go.Proofs.Ytajpggnmhkpbkaa
open Go.RowKit
attribute [local go_sem ↓] post_execLoad post_execStore

attribute [local go_sem] post_load post_store loL_drew okL_drew there_sc World.there_drew

theorem elemP : Elem Try.prog Pst.cells 10 80 38 68 := Elem.of Try.underlying38 (by kernel_rfl) (by decide) (by decide) Pst.cells_length Pst.cells_one
theorem ls_of_ps {w : World} {v : Value} {l : List Pst} (h : PS w v l) : LS Pst.cells 10 w v l ∧ WF l := by
  obtain ⟨p, cap, rfl, h1, h2, h3, h4⟩ := h
  refine ⟨⟨p, cap, rfl, h1, h2, fun hl => ?_⟩, h3⟩
  obtain ⟨b, o, e, hb, hc⟩ := h4 hl
  refine ⟨b, o, e, hb, fun i x hx j u hu => ?_⟩
  obtain ⟨c0, c1, c2, c3, c4, c5, c6, c7, c8, c9⟩ := hc i x hx
  have hj : j < 10 := by have := (List.getElem?_eq_some_iff.1 hu).1; rwa [Pst.cells_length] at this
  rcases (by omega : j = 0 ∨ j = 1 ∨ j = 2 ∨ j = 3 ∨ j = 4 ∨ j = 5 ∨ j = 6 ∨ j = 7 ∨ j = 8 ∨ j = 9) with rfl | rfl | rfl | rfl | rfl | rfl | rfl | rfl | rfl | rfl <;> (injection hu with hu; subst hu; assumption)
theorem ps_of_ls {w : World} {v : Value} {l : List Pst} (h : LS Pst.cells 10 w v l) (hw : WF l) : PS w v l := by
  obtain ⟨p, cap, rfl, h1, h2, h4⟩ := h
  refine ⟨p, cap, rfl, h1, h2, hw, fun hl => ?_⟩
  obtain ⟨b, o, e, hb, hc⟩ := h4 hl
  refine ⟨b, o, e, hb, fun i x hx => ?_⟩
  have h := hc i x hx
  exact ⟨h 0 _ rfl, h 1 _ rfl, h 2 _ rfl, h 3 _ rfl, h 4 _ rfl, h 5 _ rfl, h 6 _ rfl, h 7 _ rfl, h 8 _ rfl, h 9 _ rfl⟩
theorem post_nil_eq (w : World) (a : Option Addr) (n c n' c' : Nat) : (binOp .eql 38 (.slice a n c) (.slice none n' c')).run Try.prog w = .ok (.bool a.isNone) w := Lib.run_eql_slice_nil w _ _ a n c n' c' Try.underlying38

set_option maxRecDepth 4000 in
set_option maxHeartbeats 400000 in
theorem cloneP_any (v : Value) (l : List Pst) (hl : l.length ≤ 1073741824) (w : World) (hv : LS Pst.cells 10 w v l) :
    Calls Try.prog 44 #[v] w fun e w' => ∃ v', e = .returned v' ∧ w'.ownsRow w.heap.size 68 10 v' l.length (encL Pst.cells l) ∧ Below w.heap.size w w' := by
  have HV := Lib.hid hv
  obtain ⟨p, cap, rfl, h1, h2, h3⟩ := hv
  have hq := fun W => post_nil_eq W p l.length cap 0 0
  have H3 := Lib.hid h3; clear h3
  cases p with
  | none =>
    have hl0 : l = [] := by
      by_cases hl : l = []
      · exact hl
      · obtain ⟨b, o, h, _⟩ := H3.out hl; cases h
    subst hl0
    simp only [List.length_nil] at *
    go_enter Try.func44, Try.ntmps44
    go_wp2
    go_ret
    exact ⟨_, rfl, World.ownsRow_nil _ _ _ _, Below.refl _ _⟩
  | some ad =>
    generalize hn : l.length = n at *
    have HN := Lib.hid hn; clear hn
    go_enter Try.func44, Try.ntmps44
    go_wp2_with (at_builtin; refine wpList_append_recs elemP rfl _ _ rfl w.heap.size _ 0 [] rfl (recs_of_row (new_rowW _ _ _ rfl) (Nat.le_refl _)) _ l rfl (HV.out.alloc _) (by have := HN.out; omega) (by simp) ?_; intro v1 w1 hown1 hg1 hn1 hat1)
    have HO : Hid (w1.ownsRow w.heap.size 68 10 v1 n (encL Pst.cells l)) := Lib.hid (by have := hown1; rw [Nat.zero_add, HN.out] at this; exact this)
    have HB : Hid (Below w.heap.size w w1) := Lib.hid (((Below.refl w.heap.size w).alloc (Nat.le_refl _) _).grown hg1 (by simp) (fun b hb => by injection hb with hb; simp at hb; omega))
    clear hown1 hg1 hn1 hat1
    go_wp2
    go_ret
    exact ⟨_, rfl, HO.out, HB.out⟩

set_option maxRecDepth 4000 in
theorem isortNil_any (w : World) : Calls Try.prog 87 #[.slice none 0 0, .int .i64 0, .int .i64 0, .func (.func 61) #[] #[]] w fun e w' => e = .returned (.tuple #[]) ∧ w = w' := by
  go_enter Try.func87, Try.ntmps87
  go_wp2
  go_loopw [8] (fun i wr => i = .int .i64 1 ∧ w = wr) (fun _ _ => 0)
  case atStart => exact ⟨rfl, rfl⟩
  case round =>
    obtain ⟨rfl, rfl⟩ := hrel
    go_wp2
    go_end0
    exact ⟨rfl, rfl⟩
set_option maxRecDepth 4000 in
theorem stableNil_any (w : World) : Calls Try.prog 75 #[.slice none 0 0, .int .i64 0, .func (.func 61) #[] #[]] w fun e w' => e = .returned (.tuple #[]) ∧ w = w' := by
  go_enter Try.func75, Try.ntmps75
  go_wp2
  go_loopw [7, 8] (fun i j wr => i = .int .i64 0 ∧ j = .int .i64 20 ∧ w = wr) (fun _ _ _ => 0)
  case atStart => exact ⟨rfl, rfl, rfl⟩
  case round =>
    obtain ⟨rfl, rfl, rfl⟩ := hrel
    go_wp2_with fail
    refine (isortNil_any _).mono ?_
    rintro e w1 ⟨rfl, rfl⟩
    go_wp2
    go_loopw [6] (fun i wr => i = .int .i64 20 ∧ w = wr) (fun _ _ => 0)
    case atStart => exact ⟨rfl, rfl⟩
    case round =>
      obtain ⟨rfl, rfl⟩ := hrel
      go_wp2
      go_end0
      exact ⟨rfl, rfl⟩
theorem sortNil_any (w : World) : Calls Try.prog 60 #[.slice none 0 0, .func (.func 61) #[] #[]] w fun e w' => e = .returned (.tuple #[]) ∧ w = w' := by
  go_enter Try.func60, Try.ntmps60
  go_wp2_with fail
  refine (stableNil_any _).mono ?_
  rintro e w1 ⟨rfl, rfl⟩
  go_wp2
  go_end0
  exact ⟨rfl, rfl⟩
theorem sortRow_any (s : List Pst) (hwf : WF s) (g n cap : Nat) (hn : n = s.length) (w : World) (hcap : n ≤ cap) (hmax : n ≤ 1099511627776) (h : RowL Pst.cells 10 w g s) :
    Calls Try.prog 60 #[.slice (some ⟨g, 0, none⟩) n cap, .func (.func 61) #[] #[]] w
      fun e w' => e = .returned (.tuple #[]) ∧ ∃ s', Srt.Mix keyP s s' ∧ Srt.Up keyP s' ∧ RowL Pst.cells 10 w' g s' ∧ Only g w w' := by
  have HS := Lib.hid (stable_any s hwf g n cap hn w hcap hmax h)
  clear h hwf hn
  go_enter Try.func60, Try.ntmps60
  go_wp2_with fail
  refine HS.out.mono ?_
  rintro e w1 ⟨rfl, h⟩
  have H := Lib.hid h; clear h
  go_wp2
  go_end0
  exact ⟨rfl, H.out⟩

set_option maxRecDepth 4000 in
/-- posting.Sort: a sorted list of the same, in a block of its own -/
theorem sortP_any (v : Value) (l : List Pst) (hl : l.length ≤ 1073741824) (hwf : WF l) (w : World) (hv : LS Pst.cells 10 w v l) :
    Calls Try.prog 36 #[v] w fun e w' => ∃ v' s', e = .returned v' ∧ Srt.Mix keyP l s' ∧ Srt.Up keyP s' ∧ Mine Pst.cells 10 w' w.heap.size v' s' ∧ Below w.heap.size w w' := by
  have HC := Lib.hid (cloneP_any v l hl w hv)
  clear hv
  go_enter Try.func36, Try.ntmps36
  go_wp2_with fail
  refine HC.out.mono ?_
  rintro e w1 ⟨v1, rfl, hown, hb⟩
  have HB := Lib.hid hb; clear hb
  obtain ⟨-, ⟨rfl, rfl⟩ | ⟨g, cap, rfl, hg, hlt, hc, hx, hr⟩⟩ := recs_cases hown Pst.cells_length (by decide)
  · clear hown
    go_wp2_with fail
    refine (sortNil_any _).mono ?_
    rintro e w2 ⟨rfl, rfl⟩
    go_wp2
    go_ret
    exact ⟨_, [], rfl, .refl _, .nil, .inl ⟨rfl, rfl⟩, HB.out⟩
  · have HX := Lib.hid hx
    · have HS := Lib.hid (sortRow_any l hwf g l.length cap rfl w1 hc (by omega) hr)
      clear hown hr
      generalize hn : l.length = n at *
      have HN := Lib.hid hn; clear hn
      go_wp2_with fail
      refine HS.out.mono ?_
      rintro e w2 ⟨rfl, s', hm, hu, hr, ho⟩
      have HM := Lib.hid hm; have HU := Lib.hid hu; have HR := Lib.hid hr; have HO := Lib.hid ho
      clear hm hu hr ho
      go_wp2
      go_ret
      have hsl : n = s'.length := by rw [← HM.out.1, HN.out]
      exact ⟨.slice (some ⟨g, 0, none⟩) n cap, s', rfl, HM.out, HU.out, .inr ⟨g, cap, by rw [hsl], hg, Nat.lt_of_lt_of_le hlt HO.out.size, by omega, HX.out, HR.out⟩, Only.below HB.out hg HB.out.size HO.out⟩
end Go.Proofs.Ytajpggnmhkpbkaa
end
