/- Contracts: report.order; the search for a row among rows in order. -/
import Derived.Test.YtajpggnmhkpbkaaRfw37
import Derived.Test.YtajpggnmhkpbkaaRfw38
import Derived.Test.YtajpggnmhkpbkaaRfw27

set_option linter.unusedVariables false
set_option linter.unusedSimpArgs false
namespace Go.Proofs.Ytajpggnmhkpbkaa
open Go.RowKit

def Rep.ordR (x y : Pst) : Int := if lessP x y = true then -1 else if lessP y x = true then 1 else 0
set_option maxHeartbeats 400000 in
theorem rpOrder_any (x y : Pst) (w : World) : Calls Try.prog 46 #[.agg x.arr, .agg y.arr] w fun e w' => e = .returned (.int .i64 (Rep.ordR x y)) ∧ Below w.heap.size w w' := by
  have HL := Lib.hid (fun W => less_any x y W)
  have HM := Lib.hid (fun W => less_any y x W)
  have HO : Hid (Rep.ordR x y = if lessP x y = true then -1 else if lessP y x = true then 1 else 0) := Lib.hid rfl
  generalize Rep.ordR x y = o at *
  generalize lessP x y = q at *
  generalize lessP y x = r at *
  have HB0 := Lib.hid (fun o o' => ((Below.refl w.heap.size w).alloc (Nat.le_refl _) o).alloc (by simp) o')
  obtain ⟨d, t, s, k, a0, a1, a2, a3, a4, a5⟩ := x
  obtain ⟨d', t', s', k', b0, b1, b2, b3, b4, b5⟩ := y
  unfold Pst.arr at *
  simp only at HL HM ⊢
  cases q
  · cases r
    all_goals
      have HV := Lib.hid HO.out
      go_enter Try.func46, Try.ntmps46
      go_wp2_with fail
      refine (HL.out _).mono ?_
      rintro e w1 ⟨rfl, hb1⟩
      have HB := Lib.hid ((HB0.out _ _).trans (hb1.mono (by simp; omega)))
      obtain ⟨hcell, _⟩ := bcell hb1
      go_wp2_with fail
      refine (HM.out _).mono ?_
      rintro e w2 ⟨rfl, hb2⟩
      have HB2 := Lib.hid (HB.out.trans (hb2.mono HB.out.size))
      clear hb1 hb2 hcell
      go_wp2
      go_ret
      exact ⟨ret_int (by rw [HV.out]; rfl), HB2.out⟩
  · have HV := Lib.hid HO.out
    go_enter Try.func46, Try.ntmps46
    go_wp2_with fail
    refine (HL.out _).mono ?_
    rintro e w1 ⟨rfl, hb1⟩
    have HB := Lib.hid ((HB0.out _ _).trans (hb1.mono (by simp; omega)))
    clear hb1
    go_wp2
    go_ret
    exact ⟨ret_int (by rw [HV.out]; rfl), HB.out⟩
theorem rpOrder_cells (x y : Pst) (w : World) : Calls Try.prog 46 #[.agg x.cells.toArray, .agg y.cells.toArray] w fun e w' => e = .returned (.int .i64 (Rep.ordR x y)) ∧ Below w.heap.size w w' := rpOrder_any x y w
theorem Rep.ordR_neg (x y : Pst) : Rep.ordR x y < 0 ↔ lessP x y = true := by
  unfold Rep.ordR
  cases lessP x y <;> cases lessP y x <;> simp
theorem Rep.ordR_zero (x y : Pst) : (Rep.ordR x y == 0) = (!lessP x y && !lessP y x) := by
  unfold Rep.ordR
  cases lessP x y <;> cases lessP y x <;> rfl
theorem LS.at_cell {α : Type} {enc : α → List Value} {n : Nat} {w : World} {b o m cap : Nat} {l : List α} (h : LS enc n w (.slice (some ⟨b, o, none⟩) m cap) l) {i : Nat} {x : α} (hx : l[i]? = some x) : w.rangeAt b (o + i * n) (enc x) := by
  obtain ⟨b', o', e, _, hr⟩ := h.at hx
  injection e with e
  injection e with e1 e2
  subst e1 e2
  exact hr
theorem row_loJ {w : World} {g : Nat} {cs : List Value} {e : TypeId} (h : w.heap[g]? = some (.cells cs.toArray e (0, 0))) (hn : cs.length = 10) : loL 10 w g 0 = cs ∧ okL 10 w g 0 :=
  loL_of (fun j v hj => by rw [Nat.zero_add, cell_of_row w g _ _ _ _ h]; simpa using hj) hn
/-- where a row belongs among rows in order, and whether an alike one is there -/
structure Rep.PosAt (x : Pst) (l : List Pst) (k : Nat) (b : Bool) : Prop where
  le : k ≤ l.length
  lo : ∀ (i : Nat) (z : Pst), i < k → l[i]? = some z → lessP z x = true
  hi : ∀ (i : Nat) (z : Pst), k ≤ i → l[i]? = some z → lessP z x = false
  is : b = true ↔ ∃ z, l[k]? = some z ∧ lessP x z = false
attribute [local go_sem ↓] post_execLoad post_execStore

attribute [local go_sem] post_load post_store loL_drew okL_drew there_sc

set_option maxRecDepth 8000 in
set_option maxHeartbeats 4000000 in
theorem bsearch_any (x : Pst) (l : List Pst) (p : Option Addr) (n cap : Nat) (w : World) (hs : LS Pst.cells 10 w (.slice p n cap) l) (hm : ∀ (i j : Nat) (y z : Pst), i ≤ j → l[i]? = some y → l[j]? = some z → lessP z x = true → lessP y x = true) (hn : n ≤ 1000000) :
    Calls Try.prog 45 #[.slice p n cap, .agg x.cells.toArray, .func (.func 46) #[] #[]] w
      fun e w' => ∃ (k : Nat) (b : Bool), e = .returned (.tuple #[.int .i64 k, .bool b]) ∧ Rep.PosAt x l k b ∧ Below w.heap.size w w' := by
  have HNL := Lib.hid hs.length.1
  have HS := Lib.hid hs; have HM := Lib.hid hm
  have HB := Lib.hid ((Below.refl w.heap.size w).alloc (Nat.le_refl _) (.cells x.cells.toArray 68 (0, 0)))
  have HR := Lib.hid (new_rowW w (.cells x.cells.toArray 68 (0, 0)) _ rfl)
  clear hs hm
  go_enter Try.func45, Try.ntmps45
  go_wp2_with fail
  generalize w.alloc (.cells x.cells.toArray 68 (0, 0)) = W0 at *
  have HX0 : Hid (∀ W, Below W0.heap.size W0 W → loL 10 W w.heap.size 0 = x.cells ∧ okL 10 W w.heap.size 0) := Lib.hid (fun W hW => row_loJ ((hW.block _ (block_lt HR.out)).trans HR.out) (Pst.cells_length x))
  go_loopw [9, 10] (fun i j wr => ∃ (i' j' : Nat), i = .int .i64 (i' : Int) ∧ j = .int .i64 (j' : Int) ∧ i' ≤ j' ∧ j' ≤ n ∧ (∀ c z, c < i' → l[c]? = some z → lessP z x = true) ∧ (∀ c z, j' ≤ c → l[c]? = some z → lessP z x = false) ∧ Below W0.heap.size W0 wr) (fun i j _ => (intOf j).toNat - (intOf i).toNat)
  case atStart => exact ⟨0, n, rfl, rfl, Nat.zero_le _, Nat.le_refl _, fun c z hc => absurd hc (Nat.not_lt_zero _), fun c z hc hz => by have := (List.getElem?_eq_some_iff.1 hz).1; have := HNL.out; omega, Below.refl _ _⟩
  case round =>
    obtain ⟨i', j', rfl, rfl, hij, hjn, hlo, hhi, hb⟩ := hrel
    have HLO := Lib.hid hlo; have HHI := Lib.hid hhi; have HBB := Lib.hid hb
    clear hlo hhi hb
    by_cases hlt : i' < j'
    · obtain ⟨c, hc⟩ : ∃ c, c = (i' + j') / 2 := ⟨_, rfl⟩
      obtain ⟨sm, hsm⟩ : ∃ sm, sm = i' + j' := ⟨_, rfl⟩
      have hs2 : IntKind.i64.wrap ((i' : Int) + (j' : Int)) = (sm : Int) := by rw [IntKind.wrap_i64]; omega
      have hs3 : IntKind.u64.wrap (sm : Int) = (sm : Int) := by rw [IntKind.wrap_u64]; omega
      have hs4 : (sm : Int) / 2 = (c : Int) := by omega
      have hc0 : (0 : Int) ≤ (c : Int) := by omega
      have hcb : (c : Int) ≤ 1099511627776 := by omega
      have hpc : i' ≤ c := by omega
      have hcq : c < j' := by omega
      have hcn : c < n := by omega
      obtain ⟨f, hf⟩ : ∃ f, l[c]? = some f := ⟨_, List.getElem?_eq_getElem (by have := HNL.out; omega)⟩
      obtain ⟨eb, ef, hp, hlb, hr⟩ := ((HS.out.below HB.out).below HBB.out).at hf
      subst hp
      obtain ⟨g1, g2⟩ := loL_of hr (Pst.cells_length f)
      have HFC := Lib.hid hf
      have HRF := Lib.hid hr
      have HLB := Lib.hid hlb
      have HOC := Lib.hid (fun W => rpOrder_cells f x W)
      have HNG := Lib.hid (Rep.ordR_neg f x)
      have HFX : Hid (∀ u : Later wr, loL 10 u.val eb (ef + c * 10) = f.cells ∧ okL 10 u.val eb (ef + c * 10)) := Lib.hid (fun u => loL_of ((((HS.out.below HB.out).below HBB.out).below u.prop).at_cell hf) (Pst.cells_length f))
      have HXX : Hid (∀ u : Later wr, loL 10 u.val w.heap.size 0 = x.cells ∧ okL 10 u.val w.heap.size 0) := Lib.hid (fun u => HX0.out _ (HBB.out.trans (u.prop.mono HBB.out.size)))
      have l1 := fun u => (HFX.out u).1
      have l2 := fun u => (HFX.out u).2
      have l3 := fun u => (HXX.out u).1
      have l4 := fun u => (HXX.out u).2
      clear hr hf hlb
      generalize hcd : f.cells = cf at *
      generalize hce : x.cells = ce at *
      generalize Rep.ordR f x = res at *
      clear hc hsm
      by_cases hres : res < 0
      · have HRS := Lib.hid hres
        go_wp2_with fail
        refine wp_region_later (by kernel_rfl) (by kernel_rfl) ?_
        repeat (go_big_quiet_step (first | (go_at_call 46; exact later_call (HOC.out _))))
        refine wpQuiet_nil ?_
        rintro w5 ⟨u, rfl⟩
        have HBB2 := Lib.hid (HBB.out.trans (u.prop.mono HBB.out.size))
        go_wp2
        go_roundw
        case rel =>
          refine ⟨c + 1, j', by go_num, rfl, by omega, hjn, ?_, HHI.out, HBB2.out⟩
          intro i z hi hz
          exact HM.out i c z f (by omega) hz HFC.out (HNG.out.1 HRS.out)
        case measure => simp [intOf]; omega
      · have HRS := Lib.hid hres
        go_wp2_with fail
        refine wp_region_later (by kernel_rfl) (by kernel_rfl) ?_
        repeat (go_big_quiet_step (first | (go_at_call 46; exact later_call (HOC.out _))))
        refine wpQuiet_nil ?_
        rintro w5 ⟨u, rfl⟩
        have HBB2 := Lib.hid (HBB.out.trans (u.prop.mono HBB.out.size))
        go_wp2
        go_roundw
        case rel =>
          refine ⟨i', c, rfl, rfl, by omega, by omega, HLO.out, ?_, HBB2.out⟩
          intro i z hi hz
          cases hq : lessP z x
          · rfl
          · exact absurd (HNG.out.2 (HM.out c i f z hi HFC.out hz hq)) (by have := HRS.out; omega)
        case measure => simp [intOf]; omega
    · obtain rfl : i' = j' := by omega
      by_cases hkn : i' < n
      · obtain ⟨f, hf⟩ : ∃ f, l[i']? = some f := ⟨_, List.getElem?_eq_getElem (by have := HNL.out; omega)⟩
        obtain ⟨eb, ef, hp, hlb, hr⟩ := ((HS.out.below HB.out).below HBB.out).at hf
        subst hp
        have HFC := Lib.hid hf
        have HLB := Lib.hid hlb
        have HOC := Lib.hid (fun W => rpOrder_cells f x W)
        have HQB : Hid ((Rep.ordR f x == 0) = !lessP x f) := Lib.hid (by rw [Rep.ordR_zero, HHI.out i' f (Nat.le_refl _) hf]; simp)
        have HFX : Hid (∀ u : Later wr, loL 10 u.val eb (ef + i' * 10) = f.cells ∧ okL 10 u.val eb (ef + i' * 10)) := Lib.hid (fun u => loL_of ((((HS.out.below HB.out).below HBB.out).below u.prop).at_cell hf) (Pst.cells_length f))
        have HXX : Hid (∀ u : Later wr, loL 10 u.val w.heap.size 0 = x.cells ∧ okL 10 u.val w.heap.size 0) := Lib.hid (fun u => HX0.out _ (HBB.out.trans (u.prop.mono HBB.out.size)))
        have l1 := fun u => (HFX.out u).1
        have l2 := fun u => (HFX.out u).2
        have l3 := fun u => (HXX.out u).1
        have l4 := fun u => (HXX.out u).2
        clear hr hf hlb
        generalize hcd : f.cells = cf at *
        generalize hce : x.cells = ce at *
        generalize Rep.ordR f x = res at *
        go_wp2_with fail
        refine wp_region_later (by kernel_rfl) (by kernel_rfl) ?_
        repeat (go_big_quiet_step (first | (go_at_call 46; exact later_call (HOC.out _))))
        refine wpQuiet_nil ?_
        rintro w5 ⟨u, rfl⟩
        have HBB2 := Lib.hid (HBB.out.trans (u.prop.mono HBB.out.size))
        go_wp2
        go_ret2
        refine ⟨i', !lessP x f, by rw [HQB.out]; rfl, ⟨by have := HNL.out; omega, HLO.out, HHI.out, ?_⟩, HB.out.trans (HBB2.out.mono HB.out.size)⟩
        constructor
        · intro h
          exact ⟨f, HFC.out, by simpa using h⟩
        · rintro ⟨z, hz, h⟩
          rw [HFC.out] at hz
          injection hz with hz
          subst hz
          simpa using h
      · obtain rfl : i' = n := by omega
        go_wp2_with fail
        refine wp_region_later (by kernel_rfl) (by kernel_rfl) ?_
        repeat (go_big_quiet_step (fail))
        refine wpQuiet_nil ?_
        rintro w5 ⟨u, rfl⟩
        have HBB2 := Lib.hid (HBB.out.trans (u.prop.mono HBB.out.size))
        go_wp2
        go_ret2
        refine ⟨i', false, rfl, ⟨by have := HNL.out; omega, HLO.out, HHI.out, ?_⟩, HB.out.trans (HBB2.out.mono HB.out.size)⟩
        constructor
        · intro h; cases h
        · rintro ⟨z, hz, h⟩
          have := (List.getElem?_eq_some_iff.1 hz).1
          have := HNL.out
          omega
end Go.Proofs.Ytajpggnmhkpbkaa
