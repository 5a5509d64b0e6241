/- Contracts: the parts of a request or a mail, where they are weighed (request.pass: weigh, number, day, money, ticket, place, flight). -/
import Derived.Test.YtbmphlpmipkpcaaGreatRnm3
import Derived.Deep.QuietTactic
import Derived.BigQuiet
import Derived.StillTailTactics

set_option linter.unusedVariables false
set_option linter.unusedSimpArgs false
namespace Go.Proofs.YtbmphlpmipkpcaaGreat
open Go.RowKit

/-- of the blocks that were there those of S alone may be other ones -/
structure Turn (S : Nat → Prop) (w w' : World) : Prop where
  os : w'.os = w.os
  tape : w'.tape = w.tape
  output : w'.output = w.output
  size : w.heap.size ≤ w'.heap.size
  block : ∀ k, k < w.heap.size → ¬ S k → w'.heap[k]? = w.heap[k]?
theorem Turn.refl (S : Nat → Prop) (w : World) : Turn S w w := ⟨rfl, rfl, rfl, Nat.le_refl _, fun _ _ _ => rfl⟩
theorem Turn.trans {S : Nat → Prop} {a b c : World} (h : Turn S a b) (k : Turn S b c) : Turn S a c :=
  ⟨k.os.trans h.os, k.tape.trans h.tape, k.output.trans h.output, Nat.le_trans h.size k.size, fun i hi hg => (k.block i (Nat.lt_of_lt_of_le hi h.size) hg).trans (h.block i hi hg)⟩
theorem Turn.mono {S S' : Nat → Prop} {a b : World} (h : Turn S a b) (hs : ∀ k, k < a.heap.size → S k → S' k) : Turn S' a b :=
  ⟨h.os, h.tape, h.output, h.size, fun k hk hn => h.block k hk fun hx => hn (hs k hk hx)⟩
theorem Turn.of_below {S : Nat → Prop} {a w : World} (h : Below a.heap.size a w) : Turn S a w := ⟨h.os, h.tape, h.output, h.size, fun k hk _ => h.block k hk⟩
theorem Turn.setCell {S : Nat → Prop} {a w : World} (h : Turn S a w) {g : Nat} (hg : S g) (o : Nat) (u : Value) : Turn S a (w.setCell ⟨g, o, none⟩ u) :=
  h.trans ⟨rfl, rfl, rfl, by simp [World.setCell], fun k hk hn => Below.heap_setCell _ _ _ _ (fun e => hn (by cases e; exact hg))⟩
theorem Turn.alloc {S : Nat → Prop} {a w : World} (h : Turn S a w) (o : Obj) : Turn S a (w.alloc o) := h.trans (.of_below ((Below.refl _ _).alloc (Nat.le_refl _) _))
theorem Turn.drew {S : Nat → Prop} {a w : World} (h : Turn S a w) : Turn S a w.drew := h.trans ⟨rfl, rfl, rfl, Nat.le_refl _, fun _ _ _ => rfl⟩
theorem Turn.drewN {S : Nat → Prop} {a w : World} (h : Turn S a w) (n : Nat) : Turn S a (w.drewN n) := h.trans ⟨rfl, rfl, rfl, Nat.le_refl _, fun _ _ _ => rfl⟩
theorem Turn.after {S S' : Nat → Prop} {a b c : World} (h : Turn S a b) (k : Turn S' b c) (hs : ∀ i, i < a.heap.size → S' i → S i) : Turn S a c :=
  ⟨k.os.trans h.os, k.tape.trans h.tape, k.output.trans h.output, Nat.le_trans h.size k.size, fun i hi hg => (k.block i (Nat.lt_of_lt_of_le hi h.size) fun hx => hg (hs i hi hx)).trans (h.block i hi hg)⟩
theorem row_allocS {w : World} {g : Nat} {ob : Obj} (h : w.heap[g]? = some ob) (o : Obj) : (w.alloc o).heap[g]? = some ob := (((Below.refl w.heap.size w).alloc (Nat.le_refl _) o).block g (block_lt h)).trans h
theorem Turn.below {S : Nat → Prop} {B : Nat} {a w w' : World} (h : Below B a w) (hB : B ≤ w.heap.size) (k : Turn S w w') (hS : ∀ i, S i → B ≤ i) : Below B a w' :=
  h.trans ⟨k.os, k.tape, k.output, k.size, fun i hi => k.block i (by omega) (fun hx => by have := hS i hx; omega)⟩

theorem pweigh_any (T : TypeId) (cs : Array Value) (g : Nat) (gd may : Bool) (w : World) (hx : w.heap[g]? = some (.cells cs T (0, 0))) (h2 : cs[2]? = some (.bool gd)) :
    Calls Tryz.prog 148 #[.pointer (some ⟨g, 0, none⟩), .bool may] w fun e w' => e = .returned (.tuple #[]) ∧ w'.heap[g]? = some (.cells (cs.setIfInBounds 2 (.bool (gd && may))) T (0, 0)) ∧ Turn (· = g) w w' := by
  have c2 : w.cell? ⟨g, 2, none⟩ = some (.bool gd) := (cell_of_row w g 2 _ _ _ hx).trans h2
  have hf := fun j => frozen_of_row w g j _ _ hx
  have HX := Lib.hid hx
  clear hx h2
  cases gd
  · go_enter Tryz.func148, Tryz.ntmps148
    go_wp2
    go_end0
    exact ⟨rfl, heap_setCell_same _ _ _ _ _ _ HX.out, (Turn.refl (fun k => k = g) w).setCell rfl _ _⟩
  · go_enter Tryz.func148, Tryz.ntmps148
    go_wp2
    go_end0
    exact ⟨rfl, heap_setCell_same _ _ _ _ _ _ HX.out, (Turn.refl (fun k => k = g) w).setCell rfl _ _⟩

def inB (lo hi v : Int) : Bool := decide (lo ≤ v) && decide (v ≤ hi)

set_option maxHeartbeats 1000000 in
theorem pnumber_any (T U : TypeId) (cs ds : Array Value) (g b o : Nat) (gd : Bool) (v sz lo hi : Int) (w : World) (hx : w.heap[g]? = some (.cells cs T (0, 0))) (hy : w.heap[b]? = some (.cells ds U (0, 0))) (hne : b ≠ g)
    (h0 : cs[0]? = some (.pointer none)) (h1 : cs[1]? = some (.pointer none)) (h2 : cs[2]? = some (.bool gd)) (hv : ds[o]? = some (.int .i64 v)) :
    Calls Tryz.prog 146 #[.pointer (some ⟨g, 0, none⟩), .pointer (some ⟨b, o, none⟩), .int .i64 sz, .int .i64 lo, .int .i64 hi] w fun e w' => e = .returned (.tuple #[]) ∧
      w'.heap[g]? = some (.cells (cs.setIfInBounds 2 (.bool (gd && inB lo hi v))) T (0, 0)) ∧ w'.heap[b]? = some (.cells (ds.setIfInBounds o (.int .i64 0)) U (0, 0)) ∧ Turn (fun k => k = g ∨ k = b) w w' := by
  have c0 : w.cell? ⟨g, 0, none⟩ = some (.pointer none) := (cell_of_row w g 0 _ _ _ hx).trans h0
  have c1 : w.cell? ⟨g, 1, none⟩ = some (.pointer none) := (cell_of_row w g 1 _ _ _ hx).trans h1
  have d0 : w.cell? ⟨b, o, none⟩ = some (.int .i64 v) := (cell_of_row w b o _ _ _ hy).trans hv
  have HW := Lib.hid (fun may => pweigh_any T cs g gd may w hx h2)
  have HY := Lib.hid hy; have HV := Lib.hid hv; have HB := Lib.hid (block_lt hy); have HNE := Lib.hid hne
  clear hx hy h0 h1 h2 hv hne
  by_cases hlo : lo ≤ v
  all_goals by_cases hhi : v ≤ hi
  all_goals
    have HI : Hid (inB lo hi v = _) := Lib.hid (by unfold inB; simp only [hlo, hhi, decide_true, decide_false, Bool.and_true, Bool.and_false]; rfl)
    go_enter Tryz.func146, Tryz.ntmps146
    go_wp2_with (go_at_call 148; refine (HW.out _).mono ?_; rintro e w1 ⟨rfl, hx1, ht1⟩; have hy1 := (ht1.block _ HB.out HNE.out).trans HY.out; have hf1 := fun j => frozen_of_row w1 b j _ _ hy1; have d1 : w1.cell? ⟨b, o, none⟩ = some (.int .i64 v) := (cell_of_row w1 b o _ _ _ hy1).trans HV.out; have HX1 := Lib.hid hx1; have HY1 := Lib.hid hy1; have HT1 := Lib.hid ht1; clear hx1 hy1 ht1)
    go_end0
    rw [HI.out]
    exact ⟨rfl, (heap_setCell_other _ _ _ _ (Ne.symm HNE.out)).trans HX1.out, heap_setCell_same _ _ _ _ _ _ HY1.out, (HT1.out.mono fun k _ hk => .inl hk).setCell (.inr rfl) _ _⟩

set_option maxHeartbeats 1000000 in
theorem pday_any (T U : TypeId) (cs ds : Array Value) (g b o : Nat) (gd : Bool) (v : Int) (w : World) (hx : w.heap[g]? = some (.cells cs T (0, 0))) (hy : w.heap[b]? = some (.cells ds U (0, 0))) (hne : b ≠ g)
    (h0 : cs[0]? = some (.pointer none)) (h1 : cs[1]? = some (.pointer none)) (h2 : cs[2]? = some (.bool gd)) (hv : ds[o]? = some (.int .i64 v)) :
    Calls Tryz.prog 147 #[.pointer (some ⟨g, 0, none⟩), .pointer (some ⟨b, o, none⟩)] w fun e w' => e = .returned (.tuple #[]) ∧
      w'.heap[g]? = some (.cells (cs.setIfInBounds 2 (.bool (gd && inB 0 1000000 v))) T (0, 0)) ∧ w'.heap[b]? = some (.cells (ds.setIfInBounds o (.int .i64 0)) U (0, 0)) ∧ Turn (fun k => k = g ∨ k = b) w w' := by
  have HN := Lib.hid (fun sz => pnumber_any T U cs ds g b o gd v sz 0 1000000 w hx hy hne h0 h1 h2 hv)
  clear hx hy hne h0 h1 h2 hv
  go_enter Tryz.func147, Tryz.ntmps147
  go_wp2_with (go_at_call 146; refine (HN.out _).mono ?_; rintro e w1 ⟨rfl, h⟩; have H := Lib.hid h; clear h)
  go_end0
  exact ⟨rfl, H.out⟩

set_option maxHeartbeats 1000000 in
theorem pplace_any (T U : TypeId) (cs ds : Array Value) (g b o : Nat) (gd : Bool) (v : Int) (w : World) (hx : w.heap[g]? = some (.cells cs T (0, 0))) (hy : w.heap[b]? = some (.cells ds U (0, 0))) (hne : b ≠ g)
    (h0 : cs[0]? = some (.pointer none)) (h1 : cs[1]? = some (.pointer none)) (h2 : cs[2]? = some (.bool gd)) (hv : ds[o]? = some (.int .i64 v)) :
    Calls Tryz.prog 113 #[.pointer (some ⟨g, 0, none⟩), .pointer (some ⟨b, o, none⟩)] w fun e w' => e = .returned (.tuple #[]) ∧
      w'.heap[g]? = some (.cells (cs.setIfInBounds 2 (.bool (gd && inB 1 4 v))) T (0, 0)) ∧ w'.heap[b]? = some (.cells (ds.setIfInBounds o (.int .i64 0)) U (0, 0)) ∧ Turn (fun k => k = g ∨ k = b) w w' := by
  have HN := Lib.hid (fun sz => pnumber_any T U cs ds g b o gd v sz 1 4 w hx hy hne h0 h1 h2 hv)
  clear hx hy hne h0 h1 h2 hv
  go_enter Tryz.func113, Tryz.ntmps113
  go_wp2_with (go_at_call 146; refine (HN.out _).mono ?_; rintro e w1 ⟨rfl, h⟩; have H := Lib.hid h; clear h)
  go_end0
  exact ⟨rfl, H.out⟩

set_option maxHeartbeats 1000000 in
theorem pmoney_any (T U : TypeId) (cs ds : Array Value) (g b o : Nat) (gd : Bool) (v : Int) (w : World) (hx : w.heap[g]? = some (.cells cs T (0, 0))) (hy : w.heap[b]? = some (.cells ds U (0, 0))) (hne : b ≠ g)
    (h0 : cs[0]? = some (.pointer none)) (h1 : cs[1]? = some (.pointer none)) (h2 : cs[2]? = some (.bool gd)) (hv : ds[o]? = some (.int .i64 v)) (hw : I64 v) :
    Calls Tryz.prog 184 #[.pointer (some ⟨g, 0, none⟩), .pointer (some ⟨b, o, none⟩)] w fun e w' => e = .returned (.tuple #[]) ∧
      w'.heap[g]? = some (.cells (cs.setIfInBounds 2 (.bool (gd && inB 0 1000000000000 v))) T (0, 0)) ∧ w'.heap[b]? = some (.cells (ds.setIfInBounds o (.int .i64 0)) U (0, 0)) ∧ Turn (fun k => k = g ∨ k = b) w w' := by
  have d0 : w.cell? ⟨b, o, none⟩ = some (.int .i64 v) := (cell_of_row w b o _ _ _ hy).trans hv
  have hgl := block_lt hx
  have hbl := block_lt hy
  have HX := Lib.hid (row_allocS hx (.cells #[.int .i64 v] 3)); have HY := Lib.hid (row_allocS hy (.cells #[.int .i64 v] 3)); have HV := Lib.hid hv
  have HM := Lib.hid (new_rowW w (.cells #[.int .i64 v] 3) _ rfl)
  have HN := Lib.hid (fun W hx hy hne => pnumber_any T 3 cs #[.int .i64 v] g w.heap.size 0 gd v 8 0 1000000000000 W hx hy hne h0 h1 h2 rfl)
  have HG := Lib.hid hgl; have HBL := Lib.hid hbl; have HNE := Lib.hid hne
  clear hx hy h0 h1 h2 hv hgl hbl hne
  unfold I64 at hw
  go_enter Tryz.func184, Tryz.ntmps184
  go_wp2_with fail
  refine (HN.out _ HX.out HM.out (by have := HG.out; omega)).mono ?_
  rintro e w1 ⟨rfl, hx1, hm1, ht1⟩
  have hy1 : w1.heap[b]? = some (.cells ds U (0, 0)) := (ht1.block b (block_lt HY.out) (by have := HBL.out; have := HNE.out; rintro (h | h) <;> omega)).trans HY.out
  have hf1 := fun j => frozen_of_row w1 b j _ _ hy1
  have d1 : w1.cell? ⟨b, o, none⟩ = some (.int .i64 v) := (cell_of_row w1 b o _ _ _ hy1).trans HV.out
  have cm := cell_of_row w1 w.heap.size 0 _ _ _ hm1
  have cm' : w1.cell? ⟨w.heap.size, 0, none⟩ = some (.int .i64 0) := cm
  have HX1 := Lib.hid hx1; have HY1 := Lib.hid hy1; have HT1 := Lib.hid ht1
  clear hx1 hm1 hy1 ht1 cm
  go_wp2
  go_end0
  refine ⟨rfl, (heap_setCell_other _ _ _ _ (Ne.symm HNE.out)).trans HX1.out, heap_setCell_same _ _ _ _ _ _ HY1.out, ?_⟩
  refine Turn.setCell ?_ (.inr rfl) _ _
  exact ((Turn.refl _ w).alloc _).after HT1.out (fun i hi h => by rcases h with h | h; exact .inl h; omega)

set_option maxHeartbeats 1000000 in
theorem pticket_any (T U : TypeId) (cs ds : Array Value) (g b o : Nat) (gd : Bool) (v : Int) (w : World) (hx : w.heap[g]? = some (.cells cs T (0, 0))) (hy : w.heap[b]? = some (.cells ds U (0, 0))) (hne : b ≠ g)
    (h0 : cs[0]? = some (.pointer none)) (h1 : cs[1]? = some (.pointer none)) (h2 : cs[2]? = some (.bool gd)) (hv : ds[o]? = some (.int .u64 v)) (hw : U64 v) :
    Calls Tryz.prog 112 #[.pointer (some ⟨g, 0, none⟩), .pointer (some ⟨b, o, none⟩)] w fun e w' => e = .returned (.tuple #[]) ∧
      w'.heap[g]? = some (.cells (cs.setIfInBounds 2 (.bool (gd && Tkt.numB v))) T (0, 0)) ∧ w'.heap[b]? = some (.cells (ds.setIfInBounds o (.int .u64 0)) U (0, 0)) ∧ Turn (fun k => k = g ∨ k = b) w w' := by
  have c0 : w.cell? ⟨g, 0, none⟩ = some (.pointer none) := (cell_of_row w g 0 _ _ _ hx).trans h0
  have c1 : w.cell? ⟨g, 1, none⟩ = some (.pointer none) := (cell_of_row w g 1 _ _ _ hx).trans h1
  have d0 : w.cell? ⟨b, o, none⟩ = some (.int .u64 v) := (cell_of_row w b o _ _ _ hy).trans hv
  have HW := Lib.hid (fun may => pweigh_any T cs g gd may w hx h2)
  have HY := Lib.hid hy; have HV := Lib.hid hv; have HB := Lib.hid (block_lt hy); have HNE := Lib.hid hne
  have HCK := Lib.hid (fun W => check_any v hw.1 hw.2 W)
  clear hx hy h0 h1 h2 hv hne
  have HQ : Hid (Tkt.numB v = decide (Num.check v = 0)) := Lib.hid rfl
  generalize Tkt.numB v = q at *
  generalize Num.check v = ck at *
  go_enter Tryz.func112, Tryz.ntmps112
  go_wp2_with fail
  refine (HCK.out _).mono ?_
  rintro e w1 ⟨rfl, rfl⟩
  go_wp2_with fail
  refine (HW.out _).mono ?_
  rintro e w1 ⟨rfl, hx1, ht1⟩
  have hy1 := (ht1.block _ HB.out HNE.out).trans HY.out; have hf1 := fun j => frozen_of_row w1 b j _ _ hy1; have d1 : w1.cell? ⟨b, o, none⟩ = some (.int .u64 v) := (cell_of_row w1 b o _ _ _ hy1).trans HV.out; have HX1 := Lib.hid hx1; have HY1 := Lib.hid hy1; have HT1 := Lib.hid ht1; clear hx1 hy1 ht1
  go_wp2
  go_end0
  rw [HQ.out]
  refine ⟨rfl, (heap_setCell_other _ _ _ _ (Ne.symm HNE.out)).trans ?_, heap_setCell_same _ _ _ _ _ _ HY1.out, (HT1.out.mono fun k _ hk => .inl hk).setCell (.inr rfl) _ _⟩
  have h := HX1.out
  first | exact h | simpa using h

/-- a coupon's flight, day and value at a place, weighed -/
def flyB (fl dy va : Int) : Bool := inB 1 9999 fl && inB 0 1000000 dy && inB 0 1000000000000 va
set_option maxHeartbeats 1000000 in
theorem pflight_any (T U : TypeId) (cs ds : Array Value) (g b o : Nat) (gd : Bool) (fl dy va : Int) (w : World) (hx : w.heap[g]? = some (.cells cs T (0, 0))) (hy : w.heap[b]? = some (.cells ds U (0, 0))) (hne : b ≠ g)
    (h0 : cs[0]? = some (.pointer none)) (h1 : cs[1]? = some (.pointer none)) (h2 : cs[2]? = some (.bool gd)) (hfl : ds[o]? = some (.int .i64 fl)) (hdy : ds[o + 1]? = some (.int .i64 dy)) (hva : ds[o + 2]? = some (.int .i64 va)) (hw : I64 va) :
    Calls Tryz.prog 116 #[.pointer (some ⟨g, 0, none⟩), .pointer (some ⟨b, o, none⟩)] w fun e w' => e = .returned (.tuple #[]) ∧
      w'.heap[g]? = some (.cells (cs.setIfInBounds 2 (.bool (gd && flyB fl dy va))) T (0, 0)) ∧ w'.heap[b]? = some (.cells (((ds.setIfInBounds o (.int .i64 0)).setIfInBounds (o + 1) (.int .i64 0)).setIfInBounds (o + 2) (.int .i64 0)) U (0, 0)) ∧ Turn (fun k => k = g ∨ k = b) w w' := by
  have l2 : 2 < cs.size := (Array.getElem?_eq_some_iff.1 h2).1
  have g1 : ∀ x : Value, (cs.setIfInBounds 2 x)[0]? = some (.pointer none) ∧ (cs.setIfInBounds 2 x)[1]? = some (.pointer none) ∧ (cs.setIfInBounds 2 x)[2]? = some x := fun x => by
    refine ⟨?_, ?_, ?_⟩
    · rw [Array.getElem?_setIfInBounds_ne (by decide)]; exact h0
    · rw [Array.getElem?_setIfInBounds_ne (by decide)]; exact h1
    · rw [Array.getElem?_setIfInBounds_self, if_pos l2]
  have k1 : ∀ x : Value, (ds.setIfInBounds o x)[o + 1]? = some (.int .i64 dy) := fun x => by rw [Array.getElem?_setIfInBounds_ne (by omega)]; exact hdy
  have k2 : ∀ x y : Value, ((ds.setIfInBounds o x).setIfInBounds (o + 1) y)[o + 2]? = some (.int .i64 va) := fun x y => by rw [Array.getElem?_setIfInBounds_ne (by omega), Array.getElem?_setIfInBounds_ne (by omega)]; exact hva
  have HA := Lib.hid (pnumber_any T U cs ds g b o gd fl 2 1 9999 w hx hy hne h0 h1 h2 hfl)
  have HB := Lib.hid (fun W hx hy => pday_any T U (cs.setIfInBounds 2 (.bool (gd && inB 1 9999 fl))) (ds.setIfInBounds o (.int .i64 0)) g b (o + 1) _ dy W hx hy hne (g1 _).1 (g1 _).2.1 (g1 _).2.2 (k1 _))
  have HC := Lib.hid (fun W hx hy => pmoney_any T U (cs.setIfInBounds 2 (.bool (gd && inB 1 9999 fl && inB 0 1000000 dy))) ((ds.setIfInBounds o (.int .i64 0)).setIfInBounds (o + 1) (.int .i64 0)) g b (o + 2) _ va W hx hy hne (g1 _).1 (g1 _).2.1 (g1 _).2.2 (k2 _ _) hw)
  clear hx hy hne h0 h1 h2 hfl hdy hva g1 k1 k2 l2
  go_enter Tryz.func116, Tryz.ntmps116
  go_wp2_with fail
  refine HA.out.mono ?_
  rintro e w1 ⟨rfl, hx1, hy1, ht1⟩
  have HX1 := Lib.hid hx1; have HY1 := Lib.hid hy1; have HT1 := Lib.hid ht1; clear hx1 hy1 ht1
  go_wp2_with fail
  refine (HB.out w1 HX1.out HY1.out).mono ?_
  rintro e w2 ⟨rfl, hx1, hy1, ht1⟩
  rw [Array.setIfInBounds_setIfInBounds] at hx1
  have HX2 := Lib.hid hx1; have HY2 := Lib.hid hy1; have HT2 := Lib.hid ht1; clear hx1 hy1 ht1
  go_wp2_with fail
  refine (HC.out w2 HX2.out HY2.out).mono ?_
  rintro e w3 ⟨rfl, hx1, hy1, ht1⟩
  rw [Array.setIfInBounds_setIfInBounds] at hx1
  have HX3 := Lib.hid hx1; have HY3 := Lib.hid hy1; have HT3 := Lib.hid ht1; clear hx1 hy1 ht1
  go_wp2
  go_end0
  refine ⟨rfl, ?_, HY3.out, (HT1.out.trans HT2.out).trans HT3.out⟩
  have h := HX3.out
  unfold flyB
  rw [show (gd && (inB 1 9999 fl && inB 0 1000000 dy && inB 0 1000000000000 va)) = (gd && inB 1 9999 fl && inB 0 1000000 dy && inB 0 1000000000000 va) from by cases gd <;> simp]
  exact h
end Go.Proofs.YtbmphlpmipkpcaaGreat
