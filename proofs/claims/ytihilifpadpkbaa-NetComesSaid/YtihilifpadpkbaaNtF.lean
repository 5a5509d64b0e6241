/- The reference's net in memory; Send, Copy. -/
import Derived.Test.YtihilifpadpkbaaNtC
import Derived.Test.YtihilifpadpkbaaNtP
set_option linter.unusedVariables false
set_option linter.unusedSimpArgs false
namespace Go.Proofs.Ytihilifpadpkbaa
open Go.RowKit

/-- the reference's net at block g: lists of letters and of ages, which nobody writes into -/
structure IsR (w : World) (base g : Nat) (k : Int) (calm : Bool) (lv av : Value) (all : List Hd) : Prop where
  b : base ≤ g
  row : w.heap[g]? = some (.cells #[.int .i64 k, .bool calm, lv, av] 50 (0, 0))
  l : LS Lt.cells 15 w lv (all.map (·.l))
  a : LS intC 1 w av (all.map (·.age))
  lg : ∀ i, lv.ownBlock = some i → base ≤ i ∧ i < w.heap.size ∧ i ≠ g
  ag : ∀ i, av.ownBlock = some i → base ≤ i ∧ i < w.heap.size ∧ i ≠ g
theorem IsR.turn {w w' : World} {base g : Nat} {k : Int} {calm : Bool} {lv av : Value} {all : List Hd} {S : Nat → Prop} (h : IsR w base g k calm lv av all) (ht : Turn S w w') (hg : ¬ S g) (hl : ∀ b, lv.ownBlock = some b → ¬ S b) (ha : ∀ b, av.ownBlock = some b → ¬ S b) : IsR w' base g k calm lv av all :=
  ⟨h.b, (ht.block g (block_lt h.row) hg).trans h.row, h.l.turn ht hl, h.a.turn ht ha, fun i hi => have := h.lg i hi; ⟨this.1, Nat.lt_of_lt_of_le this.2.1 ht.size, this.2.2⟩, fun i hi => have := h.ag i hi; ⟨this.1, Nat.lt_of_lt_of_le this.2.1 ht.size, this.2.2⟩⟩
theorem IsR.below {w w' : World} {base g : Nat} {k : Int} {calm : Bool} {lv av : Value} {all : List Hd} (h : IsR w base g k calm lv av all) (hb : Below w.heap.size w w') : IsR w' base g k calm lv av all :=
  h.turn (S := fun _ => False) (.of_below hb) id (fun _ _ => id) (fun _ _ => id)
theorem own_block {w : World} {base e n m : Nat} {v : Value} {xs : List Value} (h : w.ownsRow base e n v m xs) {i : Nat} (hi : v.ownBlock = some i) : base ≤ i ∧ i < w.heap.size := recs_base h hi

set_option maxRecDepth 4000 in
set_option maxHeartbeats 4000000 in
theorem rsend_any (x : Lt) (w : World) (base g : Nat) (k : Int) (calm : Bool) (lv av : Value) (all : List Hd) (h : IsR w base g k calm lv av all) (hall : all.length ≤ 20000) :
    Calls Try.prog 34 #[.pointer (some ⟨g, 0, none⟩), .agg #[.int .i64 x.f, .int .i64 x.t, .int .u64 x.n, .int .u64 x.a, .int .i64 x.k, .int .u64 x.tk, .int .i64 x.c, .int .i64 x.d, .int .i64 x.co, .int .i64 x.fl, .int .i64 x.dy, .int .i64 x.va, .int .i64 x.st, .int .i64 x.ho, .int .u64 x.nx]] w fun e w' => e = .returned (.tuple #[]) ∧ ∃ lv' av', IsR w' base g k calm lv' av' (all ++ [h0 x]) ∧ Turn (· = g) w w' ∧ (∀ i, lv'.ownBlock = some i → w.heap.size ≤ i) ∧ (∀ i, av'.ownBlock = some i → w.heap.size ≤ i) := by
  have hrow := row_allocS h.row (.cells #[.int .i64 x.f, .int .i64 x.t, .int .u64 x.n, .int .u64 x.a, .int .i64 x.k, .int .u64 x.tk, .int .i64 x.c, .int .i64 x.d, .int .i64 x.co, .int .i64 x.fl, .int .i64 x.dy, .int .i64 x.va, .int .i64 x.st, .int .i64 x.ho, .int .u64 x.nx] 35 (0, 0))
  have H0 := Lib.hid (h.below ((Below.refl _ _).alloc (Nat.le_refl _) (.cells #[.int .i64 x.f, .int .i64 x.t, .int .u64 x.n, .int .u64 x.a, .int .i64 x.k, .int .u64 x.tk, .int .i64 x.c, .int .i64 x.d, .int .i64 x.co, .int .i64 x.fl, .int .i64 x.dy, .int .i64 x.va, .int .i64 x.st, .int .i64 x.ho, .int .u64 x.nx] 35 (0, 0))))
  have HT0 := Lib.hid ((Turn.refl (· = g) w).alloc (.cells #[.int .i64 x.f, .int .i64 x.t, .int .u64 x.n, .int .u64 x.a, .int .i64 x.k, .int .u64 x.tk, .int .i64 x.c, .int .i64 x.d, .int .i64 x.co, .int .i64 x.fl, .int .i64 x.dy, .int .i64 x.va, .int .i64 x.st, .int .i64 x.ho, .int .u64 x.nx] 35 (0, 0)))
  have HSZ := Lib.hid (block_lt h.row)
  have HAL := Lib.hid hall
  obtain ⟨lp, lc, elv⟩ := h.l.shape
  obtain ⟨ap, ac, eav⟩ := h.a.shape
  rw [List.length_map] at elv eav
  subst elv eav
  go_enter Try.func34, Try.ntmps34
  go_wp2_with fail
  generalize hw1 : w.alloc (.cells #[.int .i64 x.f, .int .i64 x.t, .int .u64 x.n, .int .u64 x.a, .int .i64 x.k, .int .u64 x.tk, .int .i64 x.c, .int .i64 x.d, .int .i64 x.co, .int .i64 x.fl, .int .i64 x.dy, .int .i64 x.va, .int .i64 x.st, .int .i64 x.ho, .int .u64 x.nx] 35 (0, 0)) = w1 at *
  have hcx : ∀ j, w1.cell? ⟨w.heap.size, j, none⟩ = #[.int .i64 x.f, .int .i64 x.t, .int .u64 x.n, .int .u64 x.a, .int .i64 x.k, .int .u64 x.tk, .int .i64 x.c, .int .i64 x.d, .int .i64 x.co, .int .i64 x.fl, .int .i64 x.dy, .int .i64 x.va, .int .i64 x.st, .int .i64 x.ho, .int .u64 x.nx][j]? := fun j => by rw [← hw1]; exact cell_of_row _ _ j _ _ _ (new_rowW w _ _ rfl)
  have HSX := Lib.hid (show w.heap.size < w1.heap.size from by rw [← hw1]; simp)
  have hsx := HSX.out
  clear hw1 hrow h hall
  have HW1 := Lib.hid (show g < w1.heap.size from block_lt H0.out.row)
  have hcg := fun j => cell_of_row w1 g j _ _ _ H0.out.row
  have hgl := HW1.out
  go_region_law (first
    | (refine step_append_recs4 elemLt rfl _ _ rfl w1.heap.size (.slice none 0 0) 0 [] rfl (World.ownsRow_nil _ _ _ _) _ (all.map (·.l)) rfl (by first | exact H0.out.l.drew | exact (H0.out.l.drew.alloc _) | exact ((H0.out.l.alloc _).drew)) (by have := HAL.out; simp; omega) (by simp) ?_; intro v2 w2 hown2 hg2 hat2; have hb2 : Below w1.heap.size w1 w2 := (by first | exact (Below.refl _ _).drew.grown hg2 (by simp) (fun b hb => by cases hb) | exact ((Below.refl _ _).drew.alloc (by simp) _).grown hg2 (by simp) (fun b hb => by cases hb) | exact (((Below.refl _ _).alloc (by simp) _).drew).grown hg2 (by simp) (fun b hb => by cases hb)); have HG2 := Lib.hid hg2; have hcx2 := fun j => (hb2.cell (p := ⟨w.heap.size, j, none⟩) hsx).trans (hcx j))
    | (refine step_append_recs4 elemLt rfl _ _ rfl w1.heap.size v2 (0 + ((all.map (·.l))).length) ([] ++ (all.map (·.l))) rfl (by first | exact hown2 | exact recs_below hown2 ((Below.refl _ _).alloc (Nat.le_refl _) _)) _ [x] rfl (by first | exact row_one (x := x) (new_rowW w2 _ _ rfl) rfl (fun _ => rfl) (by decide) | exact row_one (x := x) ((HG2.out.block _ (by simp) (fun e => by cases e)).trans (new_rowW w1 (.cells #[.int .i64 x.f, .int .i64 x.t, .int .u64 x.n, .int .u64 x.a, .int .i64 x.k, .int .u64 x.tk, .int .i64 x.c, .int .i64 x.d, .int .i64 x.co, .int .i64 x.fl, .int .i64 x.dy, .int .i64 x.va, .int .i64 x.st, .int .i64 x.ho, .int .u64 x.nx] 35 (0, 0)) _ rfl)) rfl (fun _ => rfl) (by decide)) (by have := HAL.out; simp; omega) (by have := hb2.size; first | omega | (simp; omega)) ?_; intro v3 w3 hown3 hg3 hat3; have hb3 : Below w1.heap.size w1 w3 := (by first | exact hb2.grown hg3 hb2.size (fun b hb => (recs_base hown2 hb).1) | exact (hb2.alloc hb2.size _).grown hg3 (by have := hb2.size; simp; omega) (fun b hb => (recs_base hown2 hb).1)); generalize hm3 : 0 + (all.map (·.l)).length + [x].length = m3 at hown3; have HM3 := Lib.hid hm3; obtain ⟨q3, c3, rfl⟩ := rec_form hown3; have HB3 := Lib.hid hb3; have HO3 := Lib.hid hown3; have hr3 := (hb3.block g hgl).trans H0.out.row; have HR3 := Lib.hid hr3; have hc3 := fun j => cell_of_row w3 g j _ _ _ hr3; have hf3 := fun j => frozen_of_row w3 g j _ _ hr3; clear hr3))
  all_goals
    have HQ : Hid (∀ i, (Value.slice q3 m3 c3).ownBlock = some i → w1.heap.size ≤ i ∧ i < w3.heap.size) := Lib.hid (fun i hi => recs_base HO3.out hi)
    have hts : Turn (· = g) w3 (w3.setCell ⟨g, 2, none⟩ (.slice q3 m3 c3)) := (Turn.refl (· = g) w3).setCell rfl _ _
    have HTS : Hid (Turn (· = g) w (w3.setCell ⟨g, 2, none⟩ (.slice q3 m3 c3))) := Lib.hid ((HT0.out.trans (.of_below HB3.out)).trans hts)
    have HR4 : Hid ((w3.setCell ⟨g, 2, none⟩ (.slice q3 m3 c3)).heap[g]? = some (.cells #[.int .i64 k, .bool calm, .slice q3 m3 c3, .slice ap all.length ac] 50 (0, 0))) := Lib.hid (heap_setCell_same w3 g 2 _ _ (.slice q3 m3 c3) HR3.out)
    have HA4 := Lib.hid ((H0.out.a.below HB3.out).turn hts (fun b hb e => (H0.out.ag b hb).2.2 e))
    have HL4 := Lib.hid ((LS.of_own HO3.out Lt.cells_length (by decide)).turn hts (fun b hb e => by have h1 := (HQ.out b hb).1; have h2 := HW1.out; omega))
    have HQ4 : Hid (∀ i, (Value.slice q3 m3 c3).ownBlock = some i → w1.heap.size ≤ i ∧ i < (w3.setCell ⟨g, 2, none⟩ (.slice q3 m3 c3)).heap.size) := Lib.hid (fun i hi => by have := HQ.out i hi; simpa using this)
    have HS14 : Hid (w1.heap.size ≤ (w3.setCell ⟨g, 2, none⟩ (.slice q3 m3 c3)).heap.size) := Lib.hid (by have := HB3.out.size; simpa using this)
    clear hts hm3 hc3 hf3 hcx hcg hgl hsx hown2 hg2 hat2 hb2 hown3 hg3 hat3 hb3
    try clear hcx2
    generalize hw4 : w3.setCell ⟨g, 2, none⟩ (.slice q3 m3 c3) = w4 at *
    clear hw4
    have HW2 := Lib.hid (show g < w4.heap.size from block_lt HR4.out)
    have hcg := fun j => cell_of_row w4 g j _ _ _ HR4.out
    go_wp2_with (first | (at_builtin; refine wpList_append_recs elemI rfl _ _ rfl w4.heap.size (.slice none 0 0) 0 [] rfl (World.ownsRow_nil _ _ _ _) _ (all.map Hd.age) rfl HA4.out (by have := HAL.out; simp; omega) (Nat.le_refl _) ?_; intro v5 w5 hown5 hg5 hnn5 hat5; have hb5 : Below w4.heap.size w4 w5 := (Below.refl _ _).grown hg5 (Nat.le_refl _) (fun b hb => by cases hb); have HB5 := Lib.hid hb5; have HO5 := Lib.hid (recs_below hown5 ((Below.refl _ _).alloc (Nat.le_refl _) (.cells #[.int .i64 0] 3 (0, 0)))); have HB5A := Lib.hid (hb5.alloc hb5.size (.cells #[.int .i64 0] 3 (0, 0))); have HNB := Lib.hid (new_rowW w5 (.cells #[.int .i64 0] 3 (0, 0)) _ rfl); clear hown5 hg5 hnn5 hat5 hb5) | (at_builtin; refine wpList_append_recs elemI rfl _ _ rfl w4.heap.size v5 (0 + (all.map Hd.age).length) ([] ++ all.map Hd.age) rfl HO5.out _ [(0 : Int)] rfl (row_one (enc := intC) (x := (0 : Int)) HNB.out rfl (fun _ => rfl) (by decide)) (by have := HAL.out; simp; omega) HB5A.out.size ?_; intro v6 w6 hown6 hg6 hnn6 hat6; generalize hm6 : 0 + (all.map Hd.age).length + [(0 : Int)].length = m6 at hown6; have HM6 := Lib.hid hm6; obtain ⟨q6, c6, rfl⟩ := rec_form hown6; have HO6 := Lib.hid hown6; have HB6 : Hid (Below w4.heap.size w4 w6) := Lib.hid (HB5A.out.grown hg6 HB5A.out.size (fun b hb => (recs_base HO5.out hb).1)); have HR6 := Lib.hid ((HB6.out.block g HW2.out).trans HR4.out); have hc6 := fun j => cell_of_row w6 g j _ _ _ HR6.out; have hf6 := fun j => frozen_of_row w6 g j _ _ HR6.out; clear hown6 hg6 hnn6 hat6 hm6))
    all_goals
      have HQ6 : Hid (∀ i, (Value.slice q6 m6 c6).ownBlock = some i → w4.heap.size ≤ i ∧ i < w6.heap.size) := Lib.hid (fun i hi => recs_base HO6.out hi)
      have hts : Turn (· = g) w6 (w6.setCell ⟨g, 3, none⟩ (.slice q6 m6 c6)) := (Turn.refl (· = g) w6).setCell rfl _ _
      have HTF : Hid (Turn (· = g) w (w6.setCell ⟨g, 3, none⟩ (.slice q6 m6 c6))) := Lib.hid ((HTS.out.trans (.of_below HB6.out)).trans hts)
      go_end0
      refine ⟨rfl, _, _, ⟨H0.out.b, heap_setCell_same w6 g 3 _ _ (.slice q6 m6 c6) HR6.out, ?_, ?_, ?_, ?_⟩, HTF.out, ?_, ?_⟩
      · have h1 := (HL4.out.below HB6.out).turn hts (fun b hb e => by have h1 := (HQ4.out b hb).1; have h2 := HW1.out; omega)
        rw [List.map_append]; exact h1
      · have h1 := (LS.of_own HO6.out (fun _ => rfl) (by decide)).turn hts (fun b hb e => by have h1 := (HQ6.out b hb).1; have h2 := HW2.out; omega)
        rw [List.map_append]; exact h1
      · intro i hi; have h1 := HQ4.out i hi; have h2 := HW1.out; have h3 := HB6.out.size; have h4 := H0.out.b; simp; omega
      · intro i hi; have h1 := HQ6.out i hi; have h2 := HW2.out; have h4 := H0.out.b; simp; omega
      · intro i hi; have h1 := HQ4.out i hi; have h2 := HSX.out; omega
      · intro i hi; have h1 := HQ6.out i hi; have h2 := HSX.out; have h3 := HS14.out; omega
end Go.Proofs.Ytihilifpadpkbaa
