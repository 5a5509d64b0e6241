/- Contracts: a request's taxes, weighed; the part of a run. -/
import Derived.Test.YtbmphlpmipkpcaaGreatRnm31

set_option linter.unusedVariables false
set_option linter.unusedSimpArgs false
namespace Go.Proofs.YtbmphlpmipkpcaaGreat
open Go.RowKit Go.Deep

namespace Rq
/-- the least code that may come behind taxes -/
def taxL : Int → List Txx → Int
  | m, [] => m
  | m, t :: r => taxL (min t.cd 99 + 1) r
theorem taxL_snoc : ∀ (l : List Txx) (m : Int) (t : Txx), taxL m (l ++ [t]) = min t.cd 99 + 1
  | [], m, t => rfl
  | x :: l, m, t => taxL_snoc l _ t
theorem taxGo_snoc : ∀ (l : List Txx) (m : Int) (t : Txx), taxGo m (l ++ [t]) = (taxGo m l && (inB (taxL m l) 99 t.cd && inB 0 1000000000000 t.am))
  | [], m, t => by simp [taxGo, taxL]
  | x :: l, m, t => by
    show ((inB m 99 x.cd && inB 0 1000000000000 x.am) && taxGo _ (l ++ [t])) = ((inB m 99 x.cd && inB 0 1000000000000 x.am) && taxGo _ l && (inB (taxL _ l) 99 t.cd && inB 0 1000000000000 t.am))
    rw [taxGo_snoc l]
    simp only [Bool.and_assoc]
end Rq
theorem own_curX {w : World} {base : Nat} {q : Option Addr} {n cap : Nat} {l : List Txx} (h : w.ownsRow base 127 2 (.slice q n cap) n (encL Txx.cells l)) : l.length = n ∧ n ≤ maxLen ∧ ∃ (b : Nat) (cur : Array Value), 0 < n → q = some ⟨b, 0, none⟩ ∧ w.heap[b]? = some (.cells cur 127 (0, 0)) ∧ n ≤ cap ∧ cap ≤ maxLen ∧ ∀ k y, l[k]? = some y → ∀ j, j < 2 → cur[k * 2 + j]? = y.cells[j]? := by
  have hlen := h.1
  rw [encL_length Txx.cells_length] at hlen
  have hl : l.length = n := by omega
  obtain ⟨-, ⟨h1, h2⟩ | ⟨b, cap', cur, e1, hb, hh, hnc, hcm, hcs, htk⟩⟩ := h
  · exact ⟨hl, by omega, 0, #[], fun h => by omega⟩
  · injection e1 with e1 e2 e3
    subst e3
    refine ⟨hl, by omega, b, cur, fun _ => ⟨e1, hh, hnc, hcm, fun k y hk j hj => ?_⟩⟩
    have h1 := encL_at (enc := Txx.cells) Txx.cells_length hk hj
    rw [← htk] at h1
    have hkl : k < l.length := (List.getElem?_eq_some_iff.1 hk).1
    rw [List.getElem?_take_of_lt (by omega)] at h1
    rw [← h1, Array.getElem?_toList]
set_option maxRecDepth 8000 in
set_option maxHeartbeats 2000000 in
theorem aw_taxes (ds : Array Value) (g gq base : Nat) (gd : Bool) (l : List Txx) (q : Option Addr) (n cap : Nat) (w : World) (hx : w.heap[g]? = some (.cells #[.pointer none, .pointer none, .bool gd, .pointer (some ⟨gq, 0, none⟩)] 125 (0, 0))) (hy : w.heap[gq]? = some (.cells ds 57 (0, 0))) (hne : gq ≠ g) (hd : ds[8]? = some (.slice q n cap)) (ho : w.ownsRow base 127 2 (.slice q n cap) n (encL Txx.cells l)) (hwf : ∀ c ∈ l, c.wf) :
    Calls Tryz.prog 135 #[.pointer (some ⟨g, 0, none⟩)] w fun e w' => e = .returned (.tuple #[]) ∧ w'.heap[g]? = some (.cells #[.pointer none, .pointer none, .bool (gd && (inB 0 4 (n : Int) && Rq.taxGo 1 l)), .pointer (some ⟨gq, 0, none⟩)] 125 (0, 0)) ∧ w'.heap[gq]? = some (.cells (ds.setIfInBounds 8 (.slice none 0 0)) 57 (0, 0)) ∧ Turn (fun i => i = g ∨ i = gq ∨ (Value.slice q n cap).ownBlock = some i) w w' := by
  obtain ⟨hln, hnm, b, cur, hB⟩ := own_curX ho
  have HWF := Lib.hid hwf
  have HBF := Lib.hid hB
  have HLN := Lib.hid hln
  have HL := Lib.hid (fun W hx => plistX_any 125 #[.pointer none, .pointer none, .bool gd, .pointer (some ⟨gq, 0, none⟩)] g gd q n cap 0 4 W hx rfl rfl rfl hnm)
  have hn9 : n ≤ 9223372036854775807 := by unfold maxLen at hnm; omega
  clear ho hwf hln hnm
  have hd7 : ds[8]? = some (.slice q n cap) := hd
  have HD7 := Lib.hid hd
  have HX := Lib.hid (show w.drew.heap[g]? = _ from hx)
  have HY := Lib.hid (show w.drew.heap[gq]? = _ from hy)
  have HNE := Lib.hid hne
  have HNB := Lib.hid (fun h => (⟨row_neT (hB h).2.1 hx (by decide), row_neT (hB h).2.1 hy (by decide)⟩ : b ≠ g ∧ b ≠ gq))
  have HRB : Hid (0 < n → w.drew.heap[b]? = some (.cells cur 127 (0, 0))) := Lib.hid (fun h => (hB h).2.1)
  have HT := Lib.hid ((Turn.refl (fun i => i = g ∨ i = gq ∨ (Value.slice q n cap).ownBlock = some i) w).drew)
  have hfrz := fun j => frozen_of_row w gq j _ _ hy
  have hfrg := fun j => frozen_of_row w g j _ _ hx
  have cx := fun j => cell_of_row w g j _ _ _ hx
  have cy := (cell_of_row w gq 8 _ _ _ hy).trans hd7
  clear hx hy hne hd hB
  go_enter Tryz.func135, Tryz.ntmps135
  go_upto_region 0 with fail
  refine wp_region_G (C := fun W => (W.cell? ⟨g, 3, none⟩ = some (.pointer (some ⟨gq, 0, none⟩)) ∧ W.cell? ⟨gq, 8, none⟩ = some (.slice q n cap))) (s0 := 17) (by kernel_rfl) ?_
  clear cx cy hfrz hfrg
  have hfrz := fun j => frozen_of_row w.drew gq j _ _ HY.out
  have hHeld := (show (w.drew.cell? ⟨g, 3, none⟩ = some (.pointer (some ⟨gq, 0, none⟩)) ∧ w.drew.cell? ⟨gq, 8, none⟩ = some (.slice q n cap)) from ⟨cell_of_row w.drew g 3 _ _ _ HX.out, (cell_of_row w.drew gq 8 _ _ _ HY.out).trans HD7.out⟩)
  generalize w.drew = wd at *
  refine wpAnyG_takeU (i := 0) (oi := { dst := some 6, op := Op.move (Operand.tmp 0), type := 122, pos := "request.go:153", after := #[], guard := none }) (v := ?_) rfl (by kernel_rfl) (by kernel_rfl) (by kernel_rfl) (by decide) (fun _ _ _ h => h) (Or.inl ⟨by rfl, ?_⟩) (.inl (by assumption)) ?_
  rotate_left
  · intro w hSw; go_simp; try with_reducible rfl
  try simp only [Act.put, List.setIfInBounds_toArray, List.set_cons_zero, List.set_cons_succ]
  refine wpAnyG_takeU (i := 1) (oi := { dst := some 7, op := Op.nilCheck (Operand.tmp 6), type := 0, pos := "request.go:153", after := #[{ on := 0, ground := Ground.data }], guard := none }) (v := ?_) rfl (by kernel_rfl) (by kernel_rfl) (by kernel_rfl) (by decide) (fun _ _ _ h => h) (Or.inl ⟨by rfl, ?_⟩) (.inl (by assumption)) ?_
  rotate_left
  · intro w hSw; go_simp; try with_reducible rfl
  try simp only [Act.put, List.setIfInBounds_toArray, List.set_cons_zero, List.set_cons_succ]
  refine wpAnyG_takeU (i := 2) (oi := { dst := some 8, op := Op.fieldAddr 125 (Operand.tmp 7) 1, type := 0, pos := "request.go:153", after := #[{ on := 1, ground := Ground.data }], guard := none }) (v := ?_) rfl (by kernel_rfl) (by kernel_rfl) (by kernel_rfl) (by decide) (fun _ _ _ h => h) (Or.inl ⟨by rfl, ?_⟩) (.inl (by assumption)) ?_
  rotate_left
  · intro w hSw; go_simp; try with_reducible rfl
  try simp only [Act.put, List.setIfInBounds_toArray, List.set_cons_zero, List.set_cons_succ]
  refine wpAnyG_takeM (i := 3) (oi := { dst := some 9, op := Op.load 123 (Operand.tmp 8), type := 123, pos := "request.go:153", after := #[{ on := 2, ground := Ground.data }], guard := none }) (v := ?_) (ms := [15, 16, 17]) rfl (by kernel_rfl) (by kernel_rfl) (by kernel_rfl) (by kernel_rfl) (by kernel_rfl) (fun _ _ _ h => h) (Or.inl ⟨by rfl, ?_⟩) (by assumption) ?_
  rotate_left
  · intro w hSw; (try dsimp only at hSw); go_simp; try with_reducible rfl
  try simp only [Act.put, List.setIfInBounds_toArray, List.set_cons_zero, List.set_cons_succ]
  refine wpAnyG_takeU (i := 4) (oi := { dst := some 10, op := Op.move (Operand.tmp 0), type := 122, pos := "request.go:153", after := #[], guard := none }) (v := ?_) rfl (by kernel_rfl) (by kernel_rfl) (by kernel_rfl) (by decide) (fun _ _ _ h => h) (Or.inl ⟨by rfl, ?_⟩) (.inl (by assumption)) ?_
  rotate_left
  · intro w hSw; go_simp; try with_reducible rfl
  try simp only [Act.put, List.setIfInBounds_toArray, List.set_cons_zero, List.set_cons_succ]
  refine wpAnyG_takeU (i := 5) (oi := { dst := some 11, op := Op.nilCheck (Operand.tmp 10), type := 0, pos := "request.go:153", after := #[{ on := 4, ground := Ground.data }], guard := none }) (v := ?_) rfl (by kernel_rfl) (by kernel_rfl) (by kernel_rfl) (by decide) (fun _ _ _ h => h) (Or.inl ⟨by rfl, ?_⟩) (.inl (by assumption)) ?_
  rotate_left
  · intro w hSw; go_simp; try with_reducible rfl
  try simp only [Act.put, List.setIfInBounds_toArray, List.set_cons_zero, List.set_cons_succ]
  refine wpAnyG_takeU (i := 6) (oi := { dst := some 12, op := Op.fieldAddr 125 (Operand.tmp 11) 0, type := 0, pos := "request.go:153", after := #[{ on := 5, ground := Ground.data }], guard := none }) (v := ?_) rfl (by kernel_rfl) (by kernel_rfl) (by kernel_rfl) (by decide) (fun _ _ _ h => h) (Or.inl ⟨by rfl, ?_⟩) (.inl (by assumption)) ?_
  rotate_left
  · intro w hSw; go_simp; try with_reducible rfl
  try simp only [Act.put, List.setIfInBounds_toArray, List.set_cons_zero, List.set_cons_succ]
  refine wpAnyG_takeU (i := 7) (oi := { dst := some 13, op := Op.move (Operand.tmp 0), type := 122, pos := "request.go:153", after := #[], guard := none }) (v := ?_) rfl (by kernel_rfl) (by kernel_rfl) (by kernel_rfl) (by decide) (fun _ _ _ h => h) (Or.inl ⟨by rfl, ?_⟩) (.inl (by assumption)) ?_
  rotate_left
  · intro w hSw; go_simp; try with_reducible rfl
  try simp only [Act.put, List.setIfInBounds_toArray, List.set_cons_zero, List.set_cons_succ]
  refine wpAnyG_takeU (i := 8) (oi := { dst := some 14, op := Op.nilCheck (Operand.tmp 13), type := 0, pos := "request.go:153", after := #[{ on := 7, ground := Ground.data }], guard := none }) (v := ?_) rfl (by kernel_rfl) (by kernel_rfl) (by kernel_rfl) (by decide) (fun _ _ _ h => h) (Or.inl ⟨by rfl, ?_⟩) (.inl (by assumption)) ?_
  rotate_left
  · intro w hSw; go_simp; try with_reducible rfl
  try simp only [Act.put, List.setIfInBounds_toArray, List.set_cons_zero, List.set_cons_succ]
  refine wpAnyG_takeU (i := 9) (oi := { dst := some 15, op := Op.fieldAddr 125 (Operand.tmp 14) 1, type := 0, pos := "request.go:153", after := #[{ on := 8, ground := Ground.data }], guard := none }) (v := ?_) rfl (by kernel_rfl) (by kernel_rfl) (by kernel_rfl) (by decide) (fun _ _ _ h => h) (Or.inl ⟨by rfl, ?_⟩) (.inl (by assumption)) ?_
  rotate_left
  · intro w hSw; go_simp; try with_reducible rfl
  try simp only [Act.put, List.setIfInBounds_toArray, List.set_cons_zero, List.set_cons_succ]
  refine wpAnyG_takeM (i := 10) (oi := { dst := some 16, op := Op.load 123 (Operand.tmp 15), type := 123, pos := "request.go:153", after := #[{ on := 9, ground := Ground.data }], guard := none }) (v := ?_) (ms := [11, 12, 13, 14, 15, 16, 17]) rfl (by kernel_rfl) (by kernel_rfl) (by kernel_rfl) (by kernel_rfl) (by kernel_rfl) (fun _ _ _ h => h) (Or.inl ⟨by rfl, ?_⟩) (by assumption) ?_
  rotate_left
  · intro w hSw; (try dsimp only at hSw); go_simp; try with_reducible rfl
  try simp only [Act.put, List.setIfInBounds_toArray, List.set_cons_zero, List.set_cons_succ]
  refine wpAnyG_takeU (i := 11) (oi := { dst := some 17, op := Op.nilCheck (Operand.tmp 16), type := 0, pos := "request.go:153", after := #[{ on := 10, ground := Ground.data }], guard := none }) (v := ?_) rfl (by kernel_rfl) (by kernel_rfl) (by kernel_rfl) (by decide) (fun _ _ _ h => h) (Or.inl ⟨by rfl, ?_⟩) (.inl (by assumption)) ?_
  rotate_left
  · intro w hSw; go_simp; try with_reducible rfl
  try simp only [Act.put, List.setIfInBounds_toArray, List.set_cons_zero, List.set_cons_succ]
  refine wpAnyG_takeU (i := 12) (oi := { dst := some 18, op := Op.fieldAddr 57 (Operand.tmp 17) 8, type := 0, pos := "request.go:153", after := #[{ on := 11, ground := Ground.data }], guard := none }) (v := ?_) rfl (by kernel_rfl) (by kernel_rfl) (by kernel_rfl) (by decide) (fun _ _ _ h => h) (Or.inl ⟨by rfl, ?_⟩) (.inl (by assumption)) ?_
  rotate_left
  · intro w hSw; go_simp; try with_reducible rfl
  try simp only [Act.put, List.setIfInBounds_toArray, List.set_cons_zero, List.set_cons_succ]
  refine wpAnyG_takeM (i := 13) (oi := { dst := some 19, op := Op.load 24 (Operand.tmp 18), type := 24, pos := "request.go:153", after := #[{ on := 12, ground := Ground.data }], guard := none }) (v := ?_) (ms := [14, 15, 16, 17]) rfl (by kernel_rfl) (by kernel_rfl) (by kernel_rfl) (by kernel_rfl) (by kernel_rfl) (fun _ _ _ h => h) (Or.inl ⟨by rfl, ?_⟩) (by assumption) ?_
  rotate_left
  · intro w hSw; (try dsimp only at hSw); go_simp; try with_reducible rfl
  try simp only [Act.put, List.setIfInBounds_toArray, List.set_cons_zero, List.set_cons_succ]
  refine wpAnyG_one (i := 14) (o := { dst := some 20, op := Op.call { callee := Callee.value (Operand.func 190), args := #[Operand.tmp 12, Operand.tmp 19, Operand.const (Value.int IntKind.i64 0), Operand.const (Value.int IntKind.i64 4)], argTypes := #[92, 24, 3, 3] }, type := 24, pos := "request.go:153", after := #[{ on := 6, ground := Ground.data }, { on := 13, ground := Ground.data }], guard := none }) (by kernel_rfl) rfl (fun K hK => ?_)
  go_simp
  refine (HL.out _ HX.out).mono ?_
  rintro e w2 ⟨rfl, hx2, ht2⟩
  replace HRB : Hid (0 < n → w2.heap[b]? = some (.cells cur 127 (0, 0))) := Lib.hid (fun h => (ht2.block b (block_lt (HRB.out h)) (HNB.out h).1).trans (HRB.out h))
  replace HX := Lib.hid hx2
  replace HY := Lib.hid ((ht2.block gq (block_lt HY.out) HNE.out).trans HY.out)
  replace HT := Lib.hid (HT.out.trans (ht2.mono fun i _ h => .inl h))
  clear hx2 ht2 hHeld hfrz
  have hHeld := (show (w2.cell? ⟨g, 3, none⟩ = some (.pointer (some ⟨gq, 0, none⟩)) ∧ w2.cell? ⟨gq, 8, none⟩ = some (.slice q n cap)) from ⟨cell_of_row w2 g 3 _ _ _ HX.out, (cell_of_row w2 gq 8 _ _ _ HY.out).trans HD7.out⟩)
  have hfrz := fun j => frozen_of_row w2 gq j _ _ HY.out
  refine hK.out _ _ (.inl hHeld) ?_
  clear hK K
  try simp only [Act.put, List.setIfInBounds_toArray, List.set_cons_zero, List.set_cons_succ]
  refine wpAnyG_takeU (i := 15) (oi := { dst := some 21, op := Op.nilCheck (Operand.tmp 9), type := 0, pos := "request.go:153", after := #[{ on := 3, ground := Ground.data }, { on := 0, ground := Ground.phase }, { on := 1, ground := Ground.phase }, { on := 2, ground := Ground.phase }, { on := 3, ground := Ground.phase }, { on := 4, ground := Ground.phase }, { on := 5, ground := Ground.phase }, { on := 6, ground := Ground.phase }, { on := 7, ground := Ground.phase }, { on := 8, ground := Ground.phase }, { on := 9, ground := Ground.phase }, { on := 10, ground := Ground.phase }, { on := 11, ground := Ground.phase }, { on := 12, ground := Ground.phase }, { on := 13, ground := Ground.phase }, { on := 14, ground := Ground.phase }], guard := none }) (v := ?_) rfl (by kernel_rfl) (by kernel_rfl) (by kernel_rfl) (by decide) (fun _ _ _ h => h) (Or.inl ⟨by rfl, ?_⟩) (.inl (by assumption)) ?_
  rotate_left
  · intro w hSw; go_simp; try with_reducible rfl
  try simp only [Act.put, List.setIfInBounds_toArray, List.set_cons_zero, List.set_cons_succ]
  refine wpAnyG_takeU (i := 16) (oi := { dst := some 22, op := Op.fieldAddr 57 (Operand.tmp 21) 8, type := 0, pos := "request.go:153", after := #[{ on := 15, ground := Ground.data }, { on := 0, ground := Ground.phase }, { on := 1, ground := Ground.phase }, { on := 2, ground := Ground.phase }, { on := 3, ground := Ground.phase }, { on := 4, ground := Ground.phase }, { on := 5, ground := Ground.phase }, { on := 6, ground := Ground.phase }, { on := 7, ground := Ground.phase }, { on := 8, ground := Ground.phase }, { on := 9, ground := Ground.phase }, { on := 10, ground := Ground.phase }, { on := 11, ground := Ground.phase }, { on := 12, ground := Ground.phase }, { on := 13, ground := Ground.phase }, { on := 14, ground := Ground.phase }], guard := none }) (v := ?_) rfl (by kernel_rfl) (by kernel_rfl) (by kernel_rfl) (by decide) (fun _ _ _ h => h) (Or.inl ⟨by rfl, ?_⟩) (.inl (by assumption)) ?_
  rotate_left
  · intro w hSw; go_simp; try with_reducible rfl
  try simp only [Act.put, List.setIfInBounds_toArray, List.set_cons_zero, List.set_cons_succ]
  refine wpAnyG_one (i := 17) (o := { dst := none, op := Op.store 24 (Operand.tmp 22) (Operand.tmp 20), type := 0, pos := "request.go:153", after := #[{ on := 16, ground := Ground.data }, { on := 14, ground := Ground.data }, { on := 14, ground := Ground.chain }, { on := 0, ground := Ground.phase }, { on := 1, ground := Ground.phase }, { on := 2, ground := Ground.phase }, { on := 3, ground := Ground.phase }, { on := 4, ground := Ground.phase }, { on := 5, ground := Ground.phase }, { on := 6, ground := Ground.phase }, { on := 7, ground := Ground.phase }, { on := 8, ground := Ground.phase }, { on := 9, ground := Ground.phase }, { on := 10, ground := Ground.phase }, { on := 11, ground := Ground.phase }, { on := 12, ground := Ground.phase }, { on := 13, ground := Ground.phase }, { on := 14, ground := Ground.phase }], guard := none }) (by kernel_rfl) rfl (fun K hK => ?_)
  go_simp
  refine hK.out _ _ (.inr rfl) ?_
  clear hK K
  try simp only [Act.put, List.setIfInBounds_toArray, List.set_cons_zero, List.set_cons_succ]
  refine wpAnyG_done (by kernel_rfl) ?_ _
  have hx3 : (w2.setCell ⟨gq, 8, none⟩ (.slice q n cap)).heap[g]? = _ := (heap_setCell_other _ _ _ _ (Ne.symm HNE.out)).trans HX.out
  have hy3 : (w2.setCell ⟨gq, 8, none⟩ (.slice q n cap)).heap[gq]? = _ := heap_setCell_same _ _ _ _ _ _ HY.out
  rw [set_selfA HD7.out] at hy3
  have HRB3 : Hid (0 < n → (w2.setCell ⟨gq, 8, none⟩ (.slice q n cap)).heap[b]? = some (.cells cur 127 (0, 0))) := Lib.hid (fun h => (heap_setCell_other _ _ _ _ (HNB.out h).2).trans (HRB.out h))
  have HT3 := Lib.hid (HT.out.setCell (.inr (.inl rfl)) 8 (.slice q n cap))
  generalize w2.setCell ⟨gq, 8, none⟩ (.slice q n cap) = w3 at *
  clear HX HY HRB HT hHeld hfrz
  have HX := Lib.hid hx3
  have HY := Lib.hid hy3
  have cx := cell_of_row w3 g 3 _ _ _ hx3
  have cy := (cell_of_row w3 gq 8 _ _ _ hy3).trans HD7.out
  clear hx3 hy3 hd7
  go_wp2_with fail
  clear cx cy
  go_loopw [2, 31] (fun u i wr => ∃ k : Nat, k ≤ n ∧ u = .int .i64 (Rq.taxL 1 (l.take k)) ∧ i = .int .i64 k ∧ wr.heap[g]? = some (.cells #[.pointer none, .pointer none, .bool (gd && inB 0 4 (n : Int) && Rq.taxGo 1 (l.take k)), .pointer (some ⟨gq, 0, none⟩)] 125 (0, 0)) ∧ wr.heap[gq]? = some (.cells ds 57 (0, 0)) ∧ (0 < n → ∃ es : Array Value, wr.heap[b]? = some (.cells es 127 (0, 0)) ∧ ∀ j, k * 2 ≤ j → es[j]? = cur[j]?) ∧ Turn (fun i => i = g ∨ i = gq ∨ (Value.slice q n cap).ownBlock = some i) w wr) (fun _ i _ => n - (intOf i).toNat)
  case atStart =>
    exact ⟨0, Nat.zero_le _, rfl, rfl, by rw [HX.out]; simp [Rq.taxGo], HY.out, fun h => ⟨cur, HRB3.out h, fun _ _ => rfl⟩, HT3.out⟩
  case round =>
    obtain ⟨k, hk, rfl, rfl, hx4, hy4, hb4, ht4⟩ := hrel
    clear HX HY HRB3 HT3
    have HX := Lib.hid hx4; have HY := Lib.hid hy4; have HBK := Lib.hid hb4; have HT := Lib.hid ht4
    have cx := cell_of_row wr g 3 _ _ _ hx4
    have cy := (cell_of_row wr gq 8 _ _ _ hy4).trans HD7.out
    have hfrz := fun j => frozen_of_row wr gq j _ _ hy4
    clear hx4 hy4 hb4 ht4
    by_cases hlt : k < n
    · have h0 : 0 < n := by omega
      obtain ⟨hq, -, hnc, hcm, hcur⟩ := HBF.out h0
      obtain ⟨es, hes, heq⟩ := HBK.out h0
      subst hq
      obtain ⟨x, hxk⟩ : ∃ x, l[k]? = some x := ⟨_, List.getElem?_eq_getElem (by have := HLN.out; omega)⟩
      have e0 : es[k * 2 + 0]? = some (.int .i64 x.cd) := (heq (k * 2 + 0) (by omega)).trans (hcur k x hxk 0 (by decide))
      have e1 : es[k * 2 + 1]? = some (.int .i64 x.am) := (heq (k * 2 + 1) (by omega)).trans (hcur k x hxk 1 (by decide))
      have hxw := HWF.out x (List.mem_of_getElem? hxk)
      have hcd := hxw.1
      unfold I64 at hcd
      have HSN : Hid (l.take (k + 1) = l.take k ++ [x]) := Lib.hid (take_sn hxk)
      obtain ⟨lm, hlm⟩ : ∃ z, Rq.taxL 1 (l.take k) = z := ⟨_, rfl⟩
      rw [hlm]
      have HLM := Lib.hid hlm
      clear hlm
      have HF := Lib.hid (pnumber_any 125 127 #[.pointer none, .pointer none, .bool (gd && inB 0 4 (n : Int) && Rq.taxGo 1 (l.take k)), .pointer (some ⟨gq, 0, none⟩)] es g b (k * 2) (gd && inB 0 4 (n : Int) && Rq.taxGo 1 (l.take k)) x.cd 1 lm 99 wr.drew HX.out hes (HNB.out h0).1 rfl rfl rfl e0)
      have ce := (cell_of_row wr b (k * 2) _ _ _ hes).trans e0
      have HM := Lib.hid (fun W hx hy => pmoney_any 125 127 #[.pointer none, .pointer none, .bool ((gd && inB 0 4 (n : Int) && Rq.taxGo 1 (l.take k)) && inB lm 99 x.cd), .pointer (some ⟨gq, 0, none⟩)] (es.setIfInBounds (k * 2) (.int .i64 0)) g b (k * 2 + 1) ((gd && inB 0 4 (n : Int) && Rq.taxGo 1 (l.take k)) && inB lm 99 x.cd) x.am W hx hy (HNB.out h0).1 rfl rfl rfl (by rw [Array.getElem?_setIfInBounds_ne (by omega)]; exact e1) hxw.2)
      have HEQ := Lib.hid heq
      have hmaxc : cap ≤ 9223372036854775807 := by unfold maxLen at hcm; omega
      have HBD := Lib.hid (block_lt hes)
      clear e0 e1 hes heq hcur hcm hxk hxw
      go_upto_region 7 with fail
      clear cx cy hfrz ce
      go_still_tail 7, (by kernel_rfl)
      change wpList _ _ _ _ _ (wr.drew)
      go_wp2_with fail
      refine HF.out.mono ?_
      rintro e w5 ⟨rfl, hx5, hb5, ht5⟩
      replace HX := Lib.hid (show w5.drew.heap[g]? = _ from hx5)
      have HB5 := Lib.hid (show w5.drew.heap[b]? = _ from hb5)
      replace HY := Lib.hid (show w5.drew.heap[gq]? = _ from (ht5.block gq (block_lt HY.out) (by rintro (h | h); exact HNE.out h; exact (HNB.out h0).2 h.symm)).trans HY.out)
      replace HT := Lib.hid ((HT.out.drew.trans (ht5.mono fun i _ h => by rcases h with rfl | rfl; exact .inl rfl; exact .inr (.inr rfl))).drew)
      clear hx5 hb5 ht5 HF
      go_upto_region 8 with fail
      go_still_tail 6, (by kernel_rfl)
      change wpList _ _ _ _ _ (w5.drew)
      go_wp2_with fail
      refine (HM.out _ HX.out HB5.out).mono ?_
      rintro e w6 ⟨rfl, hx6, hb6, ht6⟩
      replace HX := Lib.hid hx6
      replace HY := Lib.hid ((ht6.block gq (block_lt HY.out) (by rintro (h | h); exact HNE.out h; exact (HNB.out h0).2 h.symm)).trans HY.out)
      replace HB5 := Lib.hid hb6
      replace HT := Lib.hid (HT.out.trans (ht6.mono fun i _ h => by rcases h with rfl | rfl; exact .inl rfl; exact .inr (.inr rfl)))
      clear hx6 hb6 ht6 HM
      obtain ⟨mn, hmn⟩ : ∃ z, min x.cd 99 + 1 = z := ⟨_, rfl⟩
      have HMN := Lib.hid hmn
      have hmn2 : (x.cd < 99 ∧ mn = x.cd + 1) ∨ (¬ x.cd < 99 ∧ mn = 100) := by rw [← hmn]; by_cases h : x.cd < 99; exact .inl ⟨h, by rw [Int.min_eq_left (by omega)]⟩; exact .inr ⟨h, by rw [Int.min_eq_right (by omega)]; rfl⟩
      clear hmn
      rcases hmn2 with ⟨hm1, hm2⟩ | ⟨hm1, hm2⟩
      all_goals
        go_wp2
        go_roundw
        case rel =>
          refine ⟨k + 1, by omega, ?_, by go_num, ?_, HY.out, fun _ => ⟨_, HB5.out, fun j hj => ?_⟩, HT.out⟩
          · rw [HSN.out, Rq.taxL_snoc, HMN.out, hm2]
            try (congr 1; split <;> omega)
          · rw [HX.out, HSN.out, Rq.taxGo_snoc, HLM.out]
            simp only [Bool.and_assoc]
            rfl
          · rw [Array.getElem?_setIfInBounds_ne (by omega), Array.getElem?_setIfInBounds_ne (by omega)]
            exact HEQ.out j (by omega)
        case measure => simp [intOf]; omega
    · obtain rfl : k = n := by omega
      go_wp2_with fail
      refine (pweighs_any 125 _ g _ HX.out rfl rfl).mono ?_
      rintro e wn ⟨rfl, hwn⟩
      subst hwn
      go_wp2
      first | go_end0 | refine bodyPost_ret (results_none rfl _ _ _) rfl ?_
      refine ⟨rfl, (heap_setCell_other _ _ _ _ (Ne.symm HNE.out)).trans ?_, heap_setCell_same _ _ _ _ _ _ HY.out, HT.out.setCell (.inr (.inl rfl)) _ _⟩
      rw [HX.out, List.take_of_length_le (by have := HLN.out; omega), Bool.and_assoc]
theorem wst_taxes {w0 W : World} {g gq : Nat} {gd : Bool} {x : Rqt} (h : WSt w0 g gq gd x W) : Calls Tryz.prog 135 #[.pointer (some ⟨g, 0, none⟩)] W fun e w' => e = .returned (.tuple #[]) ∧ WSt w0 g gq (gd && Rq.partB 135 x) (Rq.partC 135 x) w' ∧ Rq.KF W w' := by
  obtain ⟨cv, tv, h1, h2, h3, h4⟩ := h.ex
  obtain ⟨q, cap, rfl⟩ := rec_formT h4
  refine (aw_taxes #[.string x.key, .int .i64 x.k, .int .i64 x.d, .int .u64 x.tk, .int .i64 x.c, .int .i64 x.st, .string x.loc, cv, .slice q x.xs.length cap, .int .i64 x.am, .int .i64 x.fr, .int .i64 x.tt] g gq w0.heap.size gd x.xs q x.xs.length cap W h1 h2 h.ne rfl h4 h.wf.xs).mono ?_
  rintro e w' ⟨rfl, k1, k2, k3⟩
  refine ⟨rfl, ⟨⟨cv, .slice none 0 0, k1, k2, own_keep3 h1 h2 h4 k3 h3 (by decide) (by decide) (by decide), own_nilQ _ _ _ _⟩, Turn.below h.b h.b.size k3 (by rintro i (rfl | rfl | hi); exact h.lo.1; exact h.lo.2; exact (recs_base h4 hi).1), h.ne, h.lo, Rq.partC_wf h.wf⟩, fun k es fs hk => ?_⟩
  exact (keep3 h1 h2 h4 k3 hk (by decide) (by decide) (by decide)).trans hk
end Go.Proofs.YtbmphlpmipkpcaaGreat
