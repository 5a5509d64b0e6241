/- Contracts: a request's coupons, weighed. -/
import Derived.Test.YtbmphlpmipkpcaaGreatRnm28
import Derived.Test.YtbmphlpmipkpcaaGreatRnm29

set_option linter.unusedVariables false
set_option linter.unusedSimpArgs false
namespace Go.Proofs.YtbmphlpmipkpcaaGreat
open Go.RowKit Go.Deep

theorem set_selfA {cs : Array Value} {i : Nat} {v : Value} (h : cs[i]? = some v) : cs.setIfInBounds i v = cs := by
  refine Array.ext_getElem? fun j => ?_
  by_cases hj : i = j
  · subst hj
    rw [Array.getElem?_setIfInBounds_self, if_pos (Array.getElem?_eq_some_iff.1 h).1, h]
  · rw [Array.getElem?_setIfInBounds_ne hj]
set_option maxHeartbeats 1000000 in
theorem plistC_any (T : TypeId) (cs : Array Value) (g : Nat) (gd : Bool) (q : Option Addr) (n cap : Nat) (lo hi : Int) (w : World) (hx : w.heap[g]? = some (.cells cs T (0, 0))) (h0 : cs[0]? = some (.pointer none)) (h1 : cs[1]? = some (.pointer none)) (h2 : cs[2]? = some (.bool gd)) (hn : n ≤ maxLen) :
    Calls Tryz.prog 211 #[.pointer (some ⟨g, 0, none⟩), .slice q n cap, .int .i64 lo, .int .i64 hi] w fun e w' => e = .returned (.slice q n cap) ∧ w'.heap[g]? = some (.cells (cs.setIfInBounds 2 (.bool (gd && inB lo hi n))) T (0, 0)) ∧ Turn (· = g) w w' := by
  unfold maxLen at hn
  have hgl := block_lt hx
  have HX := Lib.hid (row_allocS hx (.cells #[.int .i64 n] 3))
  have HM := Lib.hid (new_rowW w (.cells #[.int .i64 n] 3) _ rfl)
  have HN := Lib.hid (fun W hx hy hne => pnumber_any T 3 cs #[.int .i64 n] g w.heap.size 0 gd n 1 lo hi W hx hy hne h0 h1 h2 rfl)
  have g1 : (cs.setIfInBounds 2 (.bool (gd && inB lo hi n)))[1]? = some (.pointer none) := by rw [Array.getElem?_setIfInBounds_ne (by decide)]; exact h1
  have HG1 := Lib.hid g1
  have HG := Lib.hid hgl
  clear hx h0 h1 h2 hgl g1
  go_enter Tryz.func211, Tryz.ntmps211
  go_wp2_with fail
  refine (HN.out _ HX.out HM.out (by have := HG.out; omega)).mono ?_
  rintro e w1 ⟨rfl, hx1, hm1, ht1⟩
  have c1 : w1.cell? ⟨g, 1, none⟩ = some (.pointer none) := (cell_of_row w1 g 1 _ _ _ hx1).trans HG1.out
  have HX1 := Lib.hid hx1; have HT1 := Lib.hid ht1
  clear hx1 hm1 ht1
  go_wp2
  go_ret
  exact ⟨rfl, HX1.out, ((Turn.refl _ w).alloc _).after HT1.out (fun i hi h => by rcases h with h | h; exact h; omega)⟩
set_option maxHeartbeats 1000000 in
theorem plistX_any (T : TypeId) (cs : Array Value) (g : Nat) (gd : Bool) (q : Option Addr) (n cap : Nat) (lo hi : Int) (w : World) (hx : w.heap[g]? = some (.cells cs T (0, 0))) (h0 : cs[0]? = some (.pointer none)) (h1 : cs[1]? = some (.pointer none)) (h2 : cs[2]? = some (.bool gd)) (hn : n ≤ maxLen) :
    Calls Tryz.prog 190 #[.pointer (some ⟨g, 0, none⟩), .slice q n cap, .int .i64 lo, .int .i64 hi] w fun e w' => e = .returned (.slice q n cap) ∧ w'.heap[g]? = some (.cells (cs.setIfInBounds 2 (.bool (gd && inB lo hi n))) T (0, 0)) ∧ Turn (· = g) w w' := by
  unfold maxLen at hn
  have hgl := block_lt hx
  have HX := Lib.hid (row_allocS hx (.cells #[.int .i64 n] 3))
  have HM := Lib.hid (new_rowW w (.cells #[.int .i64 n] 3) _ rfl)
  have HN := Lib.hid (fun W hx hy hne => pnumber_any T 3 cs #[.int .i64 n] g w.heap.size 0 gd n 1 lo hi W hx hy hne h0 h1 h2 rfl)
  have g1 : (cs.setIfInBounds 2 (.bool (gd && inB lo hi n)))[1]? = some (.pointer none) := by rw [Array.getElem?_setIfInBounds_ne (by decide)]; exact h1
  have HG1 := Lib.hid g1
  have HG := Lib.hid hgl
  clear hx h0 h1 h2 hgl g1
  go_enter Tryz.func190, Tryz.ntmps190
  go_wp2_with fail
  refine (HN.out _ HX.out HM.out (by have := HG.out; omega)).mono ?_
  rintro e w1 ⟨rfl, hx1, hm1, ht1⟩
  have c1 : w1.cell? ⟨g, 1, none⟩ = some (.pointer none) := (cell_of_row w1 g 1 _ _ _ hx1).trans HG1.out
  have HX1 := Lib.hid hx1; have HT1 := Lib.hid ht1
  clear hx1 hm1 ht1
  go_wp2
  go_ret
  exact ⟨rfl, HX1.out, ((Turn.refl _ w).alloc _).after HT1.out (fun i hi h => by rcases h with h | h; exact h; omega)⟩
def Rq.plainC (c : Cpn) : Bool := flyB c.fl c.dy c.va && decide (c.st = 0) && decide (c.ho = 0) && decide (c.nx = 0)
theorem own_curQ {w : World} {base : Nat} {q : Option Addr} {n cap : Nat} {l : List Cpn} (h : w.ownsRow base 33 6 (.slice q n cap) n (encL Cpn.cells l)) : l.length = n ∧ n ≤ maxLen ∧ ∃ (b : Nat) (cur : Array Value), 0 < n → q = some ⟨b, 0, none⟩ ∧ w.heap[b]? = some (.cells cur 33 (0, 0)) ∧ n ≤ cap ∧ cap ≤ maxLen ∧ ∀ k y, l[k]? = some y → ∀ j, j < 6 → cur[k * 6 + j]? = y.cells[j]? := by
  have hlen := h.1
  rw [encL_length Cpn.cells_length] at hlen
  have hl : l.length = n := by omega
  obtain ⟨-, ⟨h1, h2⟩ | ⟨b, cap', cur, e1, hb, hh, hnc, hcm, hcs, htk⟩⟩ := h
  · exact ⟨hl, by omega, 0, #[], fun h => by omega⟩
  · injection e1 with e1 e2 e3
    subst e3
    refine ⟨hl, by omega, b, cur, fun _ => ⟨e1, hh, hnc, hcm, fun k y hk j hj => ?_⟩⟩
    have h1 := encL_at (enc := Cpn.cells) Cpn.cells_length hk hj
    rw [← htk] at h1
    have hkl : k < l.length := (List.getElem?_eq_some_iff.1 hk).1
    rw [List.getElem?_take_of_lt (by omega)] at h1
    rw [← h1, Array.getElem?_toList]
theorem range_rowQ {W : World} {b o : Nat} {es : Array Value} {e : TypeId} (h : W.heap[b]? = some (.cells es e (0, 0))) {cs : List Value} (hc : ∀ j v, cs[j]? = some v → es[o + j]? = some v) : W.rangeAt b o cs := fun j v hj => (cell_of_row W b (o + j) _ _ _ h).trans (hc j v hj)
theorem set3_at {es : Array Value} {o : Nat} {z v0 v1 v2 v3 v4 v5 : Value} (h0 : es[o]? = some v0) (h1 : es[o + 1]? = some v1) (h2 : es[o + 2]? = some v2) (h3 : es[o + 3]? = some v3) (h4 : es[o + 4]? = some v4) (h5 : es[o + 5]? = some v5) :
    ∀ (j : Nat) (v : Value), [z, z, z, v3, v4, v5][j]? = some v → (((es.setIfInBounds o z).setIfInBounds (o + 1) z).setIfInBounds (o + 2) z)[o + j]? = some v := by
  have l5 : o + 5 < es.size := (Array.getElem?_eq_some_iff.1 h5).1
  intro j v hj
  match j, hj with
  | 0, hj => rw [Array.getElem?_setIfInBounds_ne (by omega), Array.getElem?_setIfInBounds_ne (by omega), Nat.add_zero, Array.getElem?_setIfInBounds_self, if_pos (by omega)]; exact hj
  | 1, hj => rw [Array.getElem?_setIfInBounds_ne (by omega), Array.getElem?_setIfInBounds_self, if_pos (by simp; omega)]; exact hj
  | 2, hj => rw [Array.getElem?_setIfInBounds_self, if_pos (by simp; omega)]; exact hj
  | 3, hj => rw [Array.getElem?_setIfInBounds_ne (by omega), Array.getElem?_setIfInBounds_ne (by omega), Array.getElem?_setIfInBounds_ne (by omega), h3]; exact hj
  | 4, hj => rw [Array.getElem?_setIfInBounds_ne (by omega), Array.getElem?_setIfInBounds_ne (by omega), Array.getElem?_setIfInBounds_ne (by omega), h4]; exact hj
  | 5, hj => rw [Array.getElem?_setIfInBounds_ne (by omega), Array.getElem?_setIfInBounds_ne (by omega), Array.getElem?_setIfInBounds_ne (by omega), h5]; exact hj
  | j + 6, hj => simp at hj
attribute [local go_sem ↓] Cp_execLoad Cp_execStore

attribute [local go_sem] Cp_load Cp_store loL_drew okL_drew there_sc World.there_drew

set_option maxRecDepth 8000 in
set_option maxHeartbeats 2000000 in
theorem aw_coupons (most : Int) (ds : Array Value) (g gq base : Nat) (gd : Bool) (l : List Cpn) (q : Option Addr) (n cap : Nat) (w : World) (hx : w.heap[g]? = some (.cells #[.pointer none, .pointer none, .bool gd, .pointer (some ⟨gq, 0, none⟩)] 125 (0, 0))) (hy : w.heap[gq]? = some (.cells ds 57 (0, 0))) (hne : gq ≠ g) (hd : ds[7]? = some (.slice q n cap)) (ho : w.ownsRow base 33 6 (.slice q n cap) n (encL Cpn.cells l)) (hwf : ∀ c ∈ l, c.wf) :
    Calls Tryz.prog 189 #[.pointer (some ⟨g, 0, none⟩), .int .i64 most] w fun e w' => e = .returned (.tuple #[]) ∧ w'.heap[g]? = some (.cells #[.pointer none, .pointer none, .bool (gd && (inB 1 most (n : Int) && l.all Rq.plainC)), .pointer (some ⟨gq, 0, none⟩)] 125 (0, 0)) ∧ w'.heap[gq]? = some (.cells (ds.setIfInBounds 7 (.slice none 0 0)) 57 (0, 0)) ∧ Turn (fun i => i = g ∨ i = gq ∨ (Value.slice q n cap).ownBlock = some i) w w' := by
  obtain ⟨hln, hnm, b, cur, hB⟩ := own_curQ ho
  have HWF := Lib.hid hwf
  have HBF := Lib.hid hB
  have HLN := Lib.hid hln
  have HL := Lib.hid (fun W hx => plistC_any 125 #[.pointer none, .pointer none, .bool gd, .pointer (some ⟨gq, 0, none⟩)] g gd q n cap 1 most W hx rfl rfl rfl hnm)
  have hn9 : n ≤ 9223372036854775807 := by unfold maxLen at hnm; omega
  clear ho hwf hln hnm
  have hd7 : ds[7]? = some (.slice q n cap) := hd
  have HD7 := Lib.hid hd
  have h7l : 7 < ds.size := (Array.getElem?_eq_some_iff.1 hd).1
  have HX := Lib.hid (show w.drew.heap[g]? = _ from hx)
  have HY := Lib.hid (show w.drew.heap[gq]? = _ from hy)
  have HNE := Lib.hid hne
  have HNB := Lib.hid (fun h => (⟨row_neT (hB h).2.1 hx (by decide), row_neT (hB h).2.1 hy (by decide)⟩ : b ≠ g ∧ b ≠ gq))
  have HRB : Hid (0 < n → w.drew.heap[b]? = some (.cells cur 33 (0, 0))) := Lib.hid (fun h => (hB h).2.1)
  have HT := Lib.hid ((Turn.refl (fun i => i = g ∨ i = gq ∨ (Value.slice q n cap).ownBlock = some i) w).drew)
  have hfrz := fun j => frozen_of_row w gq j _ _ hy
  have hfrg := fun j => frozen_of_row w g j _ _ hx
  have cx := fun j => cell_of_row w g j _ _ _ hx
  have cy := (cell_of_row w gq 7 _ _ _ hy).trans hd7
  clear hx hy hne hd hB
  go_enter Tryz.func189, Tryz.ntmps189
  go_upto_region 0 with fail
  refine wp_region_G (C := fun W => (W.cell? ⟨g, 3, none⟩ = some (.pointer (some ⟨gq, 0, none⟩)) ∧ W.cell? ⟨gq, 7, none⟩ = some (.slice q n cap))) (s0 := 18) (by kernel_rfl) ?_
  clear cx cy hfrz hfrg
  have hfrz := fun j => frozen_of_row w.drew gq j _ _ HY.out
  have hHeld := (show (w.drew.cell? ⟨g, 3, none⟩ = some (.pointer (some ⟨gq, 0, none⟩)) ∧ w.drew.cell? ⟨gq, 7, none⟩ = some (.slice q n cap)) from ⟨cell_of_row w.drew g 3 _ _ _ HX.out, (cell_of_row w.drew gq 7 _ _ _ HY.out).trans HD7.out⟩)
  generalize w.drew = wd at *
  refine wpAnyG_takeU (i := 0) (oi := { dst := some 6, op := Op.move (Operand.tmp 0), type := 122, pos := "request.go:137", after := #[], guard := none }) (v := ?_) rfl (by kernel_rfl) (by kernel_rfl) (by kernel_rfl) (by decide) (fun _ _ _ h => h) (Or.inl ⟨by rfl, ?_⟩) (.inl (by assumption)) ?_
  rotate_left
  · intro w hSw; go_simp; try with_reducible rfl
  try simp only [Act.put, List.setIfInBounds_toArray, List.set_cons_zero, List.set_cons_succ]
  refine wpAnyG_takeU (i := 1) (oi := { dst := some 7, op := Op.nilCheck (Operand.tmp 6), type := 0, pos := "request.go:137", after := #[{ on := 0, ground := Ground.data }], guard := none }) (v := ?_) rfl (by kernel_rfl) (by kernel_rfl) (by kernel_rfl) (by decide) (fun _ _ _ h => h) (Or.inl ⟨by rfl, ?_⟩) (.inl (by assumption)) ?_
  rotate_left
  · intro w hSw; go_simp; try with_reducible rfl
  try simp only [Act.put, List.setIfInBounds_toArray, List.set_cons_zero, List.set_cons_succ]
  refine wpAnyG_takeU (i := 2) (oi := { dst := some 8, op := Op.fieldAddr 125 (Operand.tmp 7) 1, type := 0, pos := "request.go:137", after := #[{ on := 1, ground := Ground.data }], guard := none }) (v := ?_) rfl (by kernel_rfl) (by kernel_rfl) (by kernel_rfl) (by decide) (fun _ _ _ h => h) (Or.inl ⟨by rfl, ?_⟩) (.inl (by assumption)) ?_
  rotate_left
  · intro w hSw; go_simp; try with_reducible rfl
  try simp only [Act.put, List.setIfInBounds_toArray, List.set_cons_zero, List.set_cons_succ]
  refine wpAnyG_takeM (i := 3) (oi := { dst := some 9, op := Op.load 123 (Operand.tmp 8), type := 123, pos := "request.go:137", after := #[{ on := 2, ground := Ground.data }], guard := none }) (v := ?_) (ms := [16, 17, 18]) rfl (by kernel_rfl) (by kernel_rfl) (by kernel_rfl) (by kernel_rfl) (by kernel_rfl) (fun _ _ _ h => h) (Or.inl ⟨by rfl, ?_⟩) (by assumption) ?_
  rotate_left
  · intro w hSw; (try dsimp only at hSw); go_simp; try with_reducible rfl
  try simp only [Act.put, List.setIfInBounds_toArray, List.set_cons_zero, List.set_cons_succ]
  refine wpAnyG_takeU (i := 4) (oi := { dst := some 10, op := Op.move (Operand.tmp 0), type := 122, pos := "request.go:137", after := #[], guard := none }) (v := ?_) rfl (by kernel_rfl) (by kernel_rfl) (by kernel_rfl) (by decide) (fun _ _ _ h => h) (Or.inl ⟨by rfl, ?_⟩) (.inl (by assumption)) ?_
  rotate_left
  · intro w hSw; go_simp; try with_reducible rfl
  try simp only [Act.put, List.setIfInBounds_toArray, List.set_cons_zero, List.set_cons_succ]
  refine wpAnyG_takeU (i := 5) (oi := { dst := some 11, op := Op.nilCheck (Operand.tmp 10), type := 0, pos := "request.go:137", after := #[{ on := 4, ground := Ground.data }], guard := none }) (v := ?_) rfl (by kernel_rfl) (by kernel_rfl) (by kernel_rfl) (by decide) (fun _ _ _ h => h) (Or.inl ⟨by rfl, ?_⟩) (.inl (by assumption)) ?_
  rotate_left
  · intro w hSw; go_simp; try with_reducible rfl
  try simp only [Act.put, List.setIfInBounds_toArray, List.set_cons_zero, List.set_cons_succ]
  refine wpAnyG_takeU (i := 6) (oi := { dst := some 12, op := Op.fieldAddr 125 (Operand.tmp 11) 0, type := 0, pos := "request.go:137", after := #[{ on := 5, ground := Ground.data }], guard := none }) (v := ?_) rfl (by kernel_rfl) (by kernel_rfl) (by kernel_rfl) (by decide) (fun _ _ _ h => h) (Or.inl ⟨by rfl, ?_⟩) (.inl (by assumption)) ?_
  rotate_left
  · intro w hSw; go_simp; try with_reducible rfl
  try simp only [Act.put, List.setIfInBounds_toArray, List.set_cons_zero, List.set_cons_succ]
  refine wpAnyG_takeU (i := 7) (oi := { dst := some 13, op := Op.move (Operand.tmp 0), type := 122, pos := "request.go:137", after := #[], guard := none }) (v := ?_) rfl (by kernel_rfl) (by kernel_rfl) (by kernel_rfl) (by decide) (fun _ _ _ h => h) (Or.inl ⟨by rfl, ?_⟩) (.inl (by assumption)) ?_
  rotate_left
  · intro w hSw; go_simp; try with_reducible rfl
  try simp only [Act.put, List.setIfInBounds_toArray, List.set_cons_zero, List.set_cons_succ]
  refine wpAnyG_takeU (i := 8) (oi := { dst := some 14, op := Op.nilCheck (Operand.tmp 13), type := 0, pos := "request.go:137", after := #[{ on := 7, ground := Ground.data }], guard := none }) (v := ?_) rfl (by kernel_rfl) (by kernel_rfl) (by kernel_rfl) (by decide) (fun _ _ _ h => h) (Or.inl ⟨by rfl, ?_⟩) (.inl (by assumption)) ?_
  rotate_left
  · intro w hSw; go_simp; try with_reducible rfl
  try simp only [Act.put, List.setIfInBounds_toArray, List.set_cons_zero, List.set_cons_succ]
  refine wpAnyG_takeU (i := 9) (oi := { dst := some 15, op := Op.fieldAddr 125 (Operand.tmp 14) 1, type := 0, pos := "request.go:137", after := #[{ on := 8, ground := Ground.data }], guard := none }) (v := ?_) rfl (by kernel_rfl) (by kernel_rfl) (by kernel_rfl) (by decide) (fun _ _ _ h => h) (Or.inl ⟨by rfl, ?_⟩) (.inl (by assumption)) ?_
  rotate_left
  · intro w hSw; go_simp; try with_reducible rfl
  try simp only [Act.put, List.setIfInBounds_toArray, List.set_cons_zero, List.set_cons_succ]
  refine wpAnyG_takeM (i := 10) (oi := { dst := some 16, op := Op.load 123 (Operand.tmp 15), type := 123, pos := "request.go:137", after := #[{ on := 9, ground := Ground.data }], guard := none }) (v := ?_) (ms := [11, 12, 13, 15, 16, 17, 18]) rfl (by kernel_rfl) (by kernel_rfl) (by kernel_rfl) (by kernel_rfl) (by kernel_rfl) (fun _ _ _ h => h) (Or.inl ⟨by rfl, ?_⟩) (by assumption) ?_
  rotate_left
  · intro w hSw; (try dsimp only at hSw); go_simp; try with_reducible rfl
  try simp only [Act.put, List.setIfInBounds_toArray, List.set_cons_zero, List.set_cons_succ]
  refine wpAnyG_takeU (i := 11) (oi := { dst := some 17, op := Op.nilCheck (Operand.tmp 16), type := 0, pos := "request.go:137", after := #[{ on := 10, ground := Ground.data }], guard := none }) (v := ?_) rfl (by kernel_rfl) (by kernel_rfl) (by kernel_rfl) (by decide) (fun _ _ _ h => h) (Or.inl ⟨by rfl, ?_⟩) (.inl (by assumption)) ?_
  rotate_left
  · intro w hSw; go_simp; try with_reducible rfl
  try simp only [Act.put, List.setIfInBounds_toArray, List.set_cons_zero, List.set_cons_succ]
  refine wpAnyG_takeU (i := 12) (oi := { dst := some 18, op := Op.fieldAddr 57 (Operand.tmp 17) 7, type := 0, pos := "request.go:137", after := #[{ on := 11, ground := Ground.data }], guard := none }) (v := ?_) rfl (by kernel_rfl) (by kernel_rfl) (by kernel_rfl) (by decide) (fun _ _ _ h => h) (Or.inl ⟨by rfl, ?_⟩) (.inl (by assumption)) ?_
  rotate_left
  · intro w hSw; go_simp; try with_reducible rfl
  try simp only [Act.put, List.setIfInBounds_toArray, List.set_cons_zero, List.set_cons_succ]
  refine wpAnyG_takeM (i := 13) (oi := { dst := some 19, op := Op.load 23 (Operand.tmp 18), type := 23, pos := "request.go:137", after := #[{ on := 12, ground := Ground.data }], guard := none }) (v := ?_) (ms := [15, 16, 17, 18]) rfl (by kernel_rfl) (by kernel_rfl) (by kernel_rfl) (by kernel_rfl) (by kernel_rfl) (fun _ _ _ h => h) (Or.inl ⟨by rfl, ?_⟩) (by assumption) ?_
  rotate_left
  · intro w hSw; (try dsimp only at hSw); go_simp; try with_reducible rfl
  try simp only [Act.put, List.setIfInBounds_toArray, List.set_cons_zero, List.set_cons_succ]
  refine wpAnyG_takeU (i := 14) (oi := { dst := some 20, op := Op.move (Operand.tmp 1), type := 3, pos := "request.go:137", after := #[], guard := none }) (v := ?_) rfl (by kernel_rfl) (by kernel_rfl) (by kernel_rfl) (by decide) (fun _ _ _ h => h) (Or.inl ⟨by rfl, ?_⟩) (.inl (by assumption)) ?_
  rotate_left
  · intro w hSw; go_simp; try with_reducible rfl
  try simp only [Act.put, List.setIfInBounds_toArray, List.set_cons_zero, List.set_cons_succ]
  refine wpAnyG_one (i := 15) (o := { dst := some 21, op := Op.call { callee := Callee.value (Operand.func 211), args := #[Operand.tmp 12, Operand.tmp 19, Operand.const (Value.int IntKind.i64 1), Operand.tmp 20], argTypes := #[92, 23, 3, 3] }, type := 23, pos := "request.go:137", after := #[{ on := 6, ground := Ground.data }, { on := 13, ground := Ground.data }, { on := 14, ground := Ground.data }], guard := none }) (by kernel_rfl) rfl (fun K hK => ?_)
  go_simp
  refine (HL.out _ HX.out).mono ?_
  rintro e w2 ⟨rfl, hx2, ht2⟩
  replace HRB : Hid (0 < n → w2.heap[b]? = some (.cells cur 33 (0, 0))) := Lib.hid (fun h => (ht2.block b (block_lt (HRB.out h)) (HNB.out h).1).trans (HRB.out h))
  replace HX := Lib.hid hx2
  replace HY := Lib.hid ((ht2.block gq (block_lt HY.out) HNE.out).trans HY.out)
  replace HT := Lib.hid (HT.out.trans (ht2.mono fun i _ h => .inl h))
  clear hx2 ht2 hHeld hfrz
  have hHeld := (show (w2.cell? ⟨g, 3, none⟩ = some (.pointer (some ⟨gq, 0, none⟩)) ∧ w2.cell? ⟨gq, 7, none⟩ = some (.slice q n cap)) from ⟨cell_of_row w2 g 3 _ _ _ HX.out, (cell_of_row w2 gq 7 _ _ _ HY.out).trans HD7.out⟩)
  have hfrz := fun j => frozen_of_row w2 gq j _ _ HY.out
  refine hK.out _ _ (.inl hHeld) ?_
  clear hK K
  try simp only [Act.put, List.setIfInBounds_toArray, List.set_cons_zero, List.set_cons_succ]
  refine wpAnyG_takeU (i := 16) (oi := { dst := some 22, op := Op.nilCheck (Operand.tmp 9), type := 0, pos := "request.go:137", after := #[{ on := 3, ground := Ground.data }, { on := 0, ground := Ground.phase }, { on := 1, ground := Ground.phase }, { on := 2, ground := Ground.phase }, { on := 3, ground := Ground.phase }, { on := 4, ground := Ground.phase }, { on := 5, ground := Ground.phase }, { on := 6, ground := Ground.phase }, { on := 7, ground := Ground.phase }, { on := 8, ground := Ground.phase }, { on := 9, ground := Ground.phase }, { on := 10, ground := Ground.phase }, { on := 11, ground := Ground.phase }, { on := 12, ground := Ground.phase }, { on := 13, ground := Ground.phase }, { on := 14, ground := Ground.phase }, { on := 15, ground := Ground.phase }], guard := none }) (v := ?_) rfl (by kernel_rfl) (by kernel_rfl) (by kernel_rfl) (by decide) (fun _ _ _ h => h) (Or.inl ⟨by rfl, ?_⟩) (.inl (by assumption)) ?_
  rotate_left
  · intro w hSw; go_simp; try with_reducible rfl
  try simp only [Act.put, List.setIfInBounds_toArray, List.set_cons_zero, List.set_cons_succ]
  refine wpAnyG_takeU (i := 17) (oi := { dst := some 23, op := Op.fieldAddr 57 (Operand.tmp 22) 7, type := 0, pos := "request.go:137", after := #[{ on := 16, ground := Ground.data }, { on := 0, ground := Ground.phase }, { on := 1, ground := Ground.phase }, { on := 2, ground := Ground.phase }, { on := 3, ground := Ground.phase }, { on := 4, ground := Ground.phase }, { on := 5, ground := Ground.phase }, { on := 6, ground := Ground.phase }, { on := 7, ground := Ground.phase }, { on := 8, ground := Ground.phase }, { on := 9, ground := Ground.phase }, { on := 10, ground := Ground.phase }, { on := 11, ground := Ground.phase }, { on := 12, ground := Ground.phase }, { on := 13, ground := Ground.phase }, { on := 14, ground := Ground.phase }, { on := 15, ground := Ground.phase }], guard := none }) (v := ?_) rfl (by kernel_rfl) (by kernel_rfl) (by kernel_rfl) (by decide) (fun _ _ _ h => h) (Or.inl ⟨by rfl, ?_⟩) (.inl (by assumption)) ?_
  rotate_left
  · intro w hSw; go_simp; try with_reducible rfl
  try simp only [Act.put, List.setIfInBounds_toArray, List.set_cons_zero, List.set_cons_succ]
  refine wpAnyG_one (i := 18) (o := { dst := none, op := Op.store 23 (Operand.tmp 23) (Operand.tmp 21), type := 0, pos := "request.go:137", after := #[{ on := 17, ground := Ground.data }, { on := 15, ground := Ground.data }, { on := 15, ground := Ground.chain }, { on := 0, ground := Ground.phase }, { on := 1, ground := Ground.phase }, { on := 2, ground := Ground.phase }, { on := 3, ground := Ground.phase }, { on := 4, ground := Ground.phase }, { on := 5, ground := Ground.phase }, { on := 6, ground := Ground.phase }, { on := 7, ground := Ground.phase }, { on := 8, ground := Ground.phase }, { on := 9, ground := Ground.phase }, { on := 10, ground := Ground.phase }, { on := 11, ground := Ground.phase }, { on := 12, ground := Ground.phase }, { on := 13, ground := Ground.phase }, { on := 14, ground := Ground.phase }, { on := 15, ground := Ground.phase }], guard := none }) (by kernel_rfl) rfl (fun K hK => ?_)
  go_simp
  refine hK.out _ _ (.inr rfl) ?_
  clear hK K
  try simp only [Act.put, List.setIfInBounds_toArray, List.set_cons_zero, List.set_cons_succ]
  refine wpAnyG_done (by kernel_rfl) ?_ _
  have hx3 : (w2.setCell ⟨gq, 7, none⟩ (.slice q n cap)).heap[g]? = _ := (heap_setCell_other _ _ _ _ (Ne.symm HNE.out)).trans HX.out
  have hy3 : (w2.setCell ⟨gq, 7, none⟩ (.slice q n cap)).heap[gq]? = _ := heap_setCell_same _ _ _ _ _ _ HY.out
  rw [set_selfA HD7.out] at hy3
  have HRB3 : Hid (0 < n → (w2.setCell ⟨gq, 7, none⟩ (.slice q n cap)).heap[b]? = some (.cells cur 33 (0, 0))) := Lib.hid (fun h => (heap_setCell_other _ _ _ _ (HNB.out h).2).trans (HRB.out h))
  have HT3 := Lib.hid (HT.out.setCell (.inr (.inl rfl)) 7 (.slice q n cap))
  generalize w2.setCell ⟨gq, 7, none⟩ (.slice q n cap) = w3 at *
  clear HX HY HRB HT hHeld hfrz
  have HX := Lib.hid hx3
  have HY := Lib.hid hy3
  have cx := cell_of_row w3 g 3 _ _ _ hx3
  have cy := (cell_of_row w3 gq 7 _ _ _ hy3).trans HD7.out
  clear hx3 hy3 hd7
  go_wp2_with fail
  clear cx cy
  go_loopw [32] (fun i wr => ∃ k : Nat, k ≤ n ∧ i = .int .i64 k ∧ wr.heap[g]? = some (.cells #[.pointer none, .pointer none, .bool (gd && inB 1 most (n : Int) && (l.take k).all Rq.plainC), .pointer (some ⟨gq, 0, none⟩)] 125 (0, 0)) ∧ wr.heap[gq]? = some (.cells ds 57 (0, 0)) ∧ (0 < n → ∃ es : Array Value, wr.heap[b]? = some (.cells es 33 (0, 0)) ∧ ∀ j, k * 6 ≤ j → es[j]? = cur[j]?) ∧ Turn (fun i => i = g ∨ i = gq ∨ (Value.slice q n cap).ownBlock = some i) w wr) (fun i _ => n - (intOf i).toNat)
  case atStart =>
    exact ⟨0, Nat.zero_le _, rfl, by rw [HX.out]; simp, HY.out, fun h => ⟨cur, HRB3.out h, fun _ _ => rfl⟩, HT3.out⟩
  case round =>
    obtain ⟨k, hk, rfl, hx4, hy4, hb4, ht4⟩ := hrel
    clear HX HY HRB3 HT3
    have HX := Lib.hid hx4; have HY := Lib.hid hy4; have HBK := Lib.hid hb4; have HT := Lib.hid ht4
    have cx := cell_of_row wr g 3 _ _ _ hx4
    have cy := (cell_of_row wr gq 7 _ _ _ hy4).trans HD7.out
    have hfrz := fun j => frozen_of_row wr gq j _ _ hy4
    clear hx4 hy4 hb4 ht4
    by_cases hlt : k < n
    · have h0 : 0 < n := by omega
      obtain ⟨hq, -, hnc, hcm, hcur⟩ := HBF.out h0
      obtain ⟨es, hes, heq⟩ := HBK.out h0
      subst hq
      obtain ⟨x, hxk⟩ : ∃ x, l[k]? = some x := ⟨_, List.getElem?_eq_getElem (by have := HLN.out; omega)⟩
      have e0 : es[k * 6 + 0]? = some (.int .i64 x.fl) := (heq (k * 6 + 0) (by omega)).trans (hcur k x hxk 0 (by decide))
      have e1 : es[k * 6 + 1]? = some (.int .i64 x.dy) := (heq (k * 6 + 1) (by omega)).trans (hcur k x hxk 1 (by decide))
      have e2 : es[k * 6 + 2]? = some (.int .i64 x.va) := (heq (k * 6 + 2) (by omega)).trans (hcur k x hxk 2 (by decide))
      have e3 : es[k * 6 + 3]? = some (.int .i64 x.st) := (heq (k * 6 + 3) (by omega)).trans (hcur k x hxk 3 (by decide))
      have e4 : es[k * 6 + 4]? = some (.int .i64 x.ho) := (heq (k * 6 + 4) (by omega)).trans (hcur k x hxk 4 (by decide))
      have e5 : es[k * 6 + 5]? = some (.int .u64 x.nx) := (heq (k * 6 + 5) (by omega)).trans (hcur k x hxk 5 (by decide))
      have HF := Lib.hid (pflight_any 125 33 #[.pointer none, .pointer none, .bool (gd && inB 1 most (n : Int) && (l.take k).all Rq.plainC), .pointer (some ⟨gq, 0, none⟩)] es g b (k * 6) (gd && inB 1 most (n : Int) && (l.take k).all Rq.plainC) x.fl x.dy x.va wr HX.out hes (HNB.out h0).1 rfl rfl rfl e0 e1 e2 (HWF.out x (List.mem_of_getElem? hxk)).2.2.1)
      have HR6 := Lib.hid (set3_at (z := .int .i64 0) e0 e1 e2 e3 e4 e5)
      have HXK := Lib.hid hxk
      have HEQ := Lib.hid heq
      have HES := Lib.hid hes
      have hmaxc : cap ≤ 9223372036854775807 := by unfold maxLen at hcm; omega
      clear e0 e1 e2 e3 e4 e5 hes heq hcur hcm hxk
      go_wp2_with fail
      clear cx cy hfrz
      refine HF.out.mono ?_
      rintro e w5 ⟨rfl, hx5, hb5, ht5⟩
      have HB5 := Lib.hid hb5
      replace HX := Lib.hid hx5
      replace HY := Lib.hid ((ht5.block gq (block_lt HY.out) (by rintro (h | h); exact HNE.out h; exact (HNB.out h0).2 h.symm)).trans HY.out)
      replace HT := Lib.hid (HT.out.trans (ht5.mono fun i _ h => by rcases h with rfl | rfl; exact .inl rfl; exact .inr (.inr rfl)))
      clear hx5 hb5 ht5 HF
      obtain ⟨qz, hqz⟩ : ∃ z, Cpn.eqB ⟨0, 0, 0, x.st, x.ho, x.nx⟩ ⟨0, 0, 0, 0, 0, 0⟩ = z := ⟨_, rfl⟩
      have HE : ∀ W : World, (binOp .eql 33 (.agg #[.int .i64 0, .int .i64 0, .int .i64 0, .int .i64 x.st, .int .i64 x.ho, .int .u64 x.nx]) (.agg #[.int .i64 0, .int .i64 0, .int .i64 0, .int .i64 0, .int .i64 0, .int .u64 0])).run Tryz.prog W = .ok (.bool qz) W := fun W => by rw [← hqz]; exact eqlCp ⟨0, 0, 0, x.st, x.ho, x.nx⟩ ⟨0, 0, 0, 0, 0, 0⟩ W
      have hG := guardeqlCp
      have HQZ := Lib.hid hqz
      clear hqz
      go_upto_region 6 with fail
      refine wp_region_G (C := fun W => (loL 6 W b (k * 6) = [.int .i64 0, .int .i64 0, .int .i64 0, .int .i64 x.st, .int .i64 x.ho, .int .u64 x.nx] ∧ okL 6 W b (k * 6))) (s0 := 15) (by kernel_rfl) ?_
      have hHeld := (show (loL 6 w5.drew b (k * 6) = [.int .i64 0, .int .i64 0, .int .i64 0, .int .i64 x.st, .int .i64 x.ho, .int .u64 x.nx] ∧ okL 6 w5.drew b (k * 6)) from loL_of (range_rowQ (W := w5.drew) HB5.out HR6.out) rfl)
      replace HX := Lib.hid (show w5.drew.heap[g]? = _ from HX.out)
      replace HY := Lib.hid (show w5.drew.heap[gq]? = _ from HY.out)
      replace HB5 := Lib.hid (show w5.drew.heap[b]? = _ from HB5.out)
      replace HT := Lib.hid HT.out.drew
      generalize w5.drew = wd at *
      refine wpAnyG_takeU (i := 0) (oi := { dst := some 49, op := Op.move (Operand.tmp 0), type := 122, pos := "request.go:141", after := #[], guard := none }) (v := ?_) rfl (by kernel_rfl) (by kernel_rfl) (by kernel_rfl) (by decide) (fun _ _ _ h => h) (Or.inl ⟨by rfl, ?_⟩) (.inl (by assumption)) ?_
      rotate_left
      · intro w hSw; go_simp; try with_reducible rfl
      try simp only [Act.put, List.setIfInBounds_toArray, List.set_cons_zero, List.set_cons_succ]
      refine wpAnyG_takeU (i := 1) (oi := { dst := some 50, op := Op.nilCheck (Operand.tmp 49), type := 0, pos := "request.go:141", after := #[{ on := 0, ground := Ground.data }], guard := none }) (v := ?_) rfl (by kernel_rfl) (by kernel_rfl) (by kernel_rfl) (by decide) (fun _ _ _ h => h) (Or.inl ⟨by rfl, ?_⟩) (.inl (by assumption)) ?_
      rotate_left
      · intro w hSw; go_simp; try with_reducible rfl
      try simp only [Act.put, List.setIfInBounds_toArray, List.set_cons_zero, List.set_cons_succ]
      refine wpAnyG_takeU (i := 2) (oi := { dst := some 51, op := Op.fieldAddr 125 (Operand.tmp 50) 0, type := 0, pos := "request.go:141", after := #[{ on := 1, ground := Ground.data }], guard := none }) (v := ?_) rfl (by kernel_rfl) (by kernel_rfl) (by kernel_rfl) (by decide) (fun _ _ _ h => h) (Or.inl ⟨by rfl, ?_⟩) (.inl (by assumption)) ?_
      rotate_left
      · intro w hSw; go_simp; try with_reducible rfl
      try simp only [Act.put, List.setIfInBounds_toArray, List.set_cons_zero, List.set_cons_succ]
      refine wpAnyG_takeU (i := 3) (oi := { dst := some 52, op := Op.move (Operand.tmp 0), type := 122, pos := "request.go:141", after := #[], guard := none }) (v := ?_) rfl (by kernel_rfl) (by kernel_rfl) (by kernel_rfl) (by decide) (fun _ _ _ h => h) (Or.inl ⟨by rfl, ?_⟩) (.inl (by assumption)) ?_
      rotate_left
      · intro w hSw; go_simp; try with_reducible rfl
      try simp only [Act.put, List.setIfInBounds_toArray, List.set_cons_zero, List.set_cons_succ]
      refine wpAnyG_takeU (i := 4) (oi := { dst := some 53, op := Op.nilCheck (Operand.tmp 52), type := 0, pos := "request.go:141", after := #[{ on := 3, ground := Ground.data }], guard := none }) (v := ?_) rfl (by kernel_rfl) (by kernel_rfl) (by kernel_rfl) (by decide) (fun _ _ _ h => h) (Or.inl ⟨by rfl, ?_⟩) (.inl (by assumption)) ?_
      rotate_left
      · intro w hSw; go_simp; try with_reducible rfl
      try simp only [Act.put, List.setIfInBounds_toArray, List.set_cons_zero, List.set_cons_succ]
      refine wpAnyG_takeU (i := 5) (oi := { dst := some 54, op := Op.fieldAddr 125 (Operand.tmp 53) 0, type := 0, pos := "request.go:141", after := #[{ on := 4, ground := Ground.data }], guard := none }) (v := ?_) rfl (by kernel_rfl) (by kernel_rfl) (by kernel_rfl) (by decide) (fun _ _ _ h => h) (Or.inl ⟨by rfl, ?_⟩) (.inl (by assumption)) ?_
      rotate_left
      · intro w hSw; go_simp; try with_reducible rfl
      try simp only [Act.put, List.setIfInBounds_toArray, List.set_cons_zero, List.set_cons_succ]
      refine wpAnyG_one (i := 6) (o := { dst := some 55, op := Op.call { callee := Callee.value (Operand.func 118), args := #[Operand.tmp 54], argTypes := #[97] }, type := 4, pos := "request.go:141", after := #[{ on := 5, ground := Ground.data }], guard := none }) (by kernel_rfl) rfl (fun K hK => ?_)
      go_simp
      refine (pweighs_any 125 _ g _ HX.out rfl rfl).mono ?_
      rintro e wn ⟨rfl, hwn⟩
      subst hwn
      refine hK.out _ _ (.inl hHeld) ?_
      clear hK K
      try simp only [Act.put, List.setIfInBounds_toArray, List.set_cons_zero, List.set_cons_succ]
      refine wpAnyG_takeU (i := 7) (oi := { dst := some 56, op := Op.unOp UnOp.not 4 (Operand.tmp 55), type := 4, pos := "request.go:141", after := #[{ on := 6, ground := Ground.data }], guard := none }) (v := ?_) rfl (by kernel_rfl) (by kernel_rfl) (by kernel_rfl) (by decide) (fun _ _ _ h => h) (Or.inl ⟨by rfl, ?_⟩) (.inl (by assumption)) ?_
      rotate_left
      · intro w hSw; go_simp; try with_reducible rfl
      try simp only [Act.put, List.setIfInBounds_toArray, List.set_cons_zero, List.set_cons_succ]
      refine wpAnyG_takeU (i := 8) (oi := { dst := some 57, op := Op.move (Operand.tmp 56), type := 4, pos := "request.go:141", after := #[{ on := 7, ground := Ground.data }, { on := 6, ground := Ground.chain }], guard := none }) (v := ?_) rfl (by kernel_rfl) (by kernel_rfl) (by kernel_rfl) (by decide) (fun _ _ _ h => h) (Or.inl ⟨by rfl, ?_⟩) (.inl (by assumption)) ?_
      rotate_left
      · intro w hSw; go_simp; try with_reducible rfl
      try simp only [Act.put, List.setIfInBounds_toArray, List.set_cons_zero, List.set_cons_succ]
      refine wpAnyG_takeU (i := 9) (oi := { dst := some 58, op := Op.move (Operand.tmp 5), type := 181, pos := "request.go:141", after := #[{ on := 8, ground := Ground.guard }], guard := some (8, false) }) (v := ?_) rfl (by kernel_rfl) (by kernel_rfl) (by kernel_rfl) (by decide) (fun _ _ _ h => h) (Or.inl ⟨by rfl, ?_⟩) (.inl (by assumption)) ?_
      rotate_left
      · intro w hSw; go_simp; try with_reducible rfl
      try simp only [Act.put, List.setIfInBounds_toArray, List.set_cons_zero, List.set_cons_succ]
      refine wpAnyG_takeU (i := 10) (oi := { dst := some 59, op := Op.nilCheck (Operand.tmp 58), type := 0, pos := "request.go:141", after := #[{ on := 9, ground := Ground.data }, { on := 8, ground := Ground.guard }], guard := some (8, false) }) (v := ?_) rfl (by kernel_rfl) (by kernel_rfl) (by kernel_rfl) (by decide) (fun _ _ _ h => h) (Or.inl ⟨by rfl, ?_⟩) (.inl (by assumption)) ?_
      rotate_left
      · intro w hSw; go_simp; try with_reducible rfl
      try simp only [Act.put, List.setIfInBounds_toArray, List.set_cons_zero, List.set_cons_succ]
      refine wpAnyG_takeM (i := 11) (oi := { dst := some 60, op := Op.load 33 (Operand.tmp 59), type := 33, pos := "request.go:141", after := #[{ on := 10, ground := Ground.data }, { on := 8, ground := Ground.guard }], guard := some (8, false) }) (v := ?_) (ms := [13, 14, 15]) rfl (by kernel_rfl) (by kernel_rfl) (by kernel_rfl) (by kernel_rfl) (by kernel_rfl) (fun _ _ _ h => h) (Or.inl ⟨by rfl, ?_⟩) (by assumption) ?_
      rotate_left
      · intro w hSw; (try dsimp only at hSw); go_simp; try with_reducible rfl
      try simp only [Act.put, List.setIfInBounds_toArray, List.set_cons_zero, List.set_cons_succ]
      refine wpAnyG_takeU (i := 12) (oi := { dst := some 61, op := Op.build 33 #[], type := 33, pos := "request.go:141", after := #[{ on := 8, ground := Ground.guard }], guard := some (8, false) }) (v := ?_) rfl (by kernel_rfl) (by kernel_rfl) (by kernel_rfl) (by decide) (fun _ _ _ h => h) (Or.inl ⟨by rfl, ?_⟩) (.inl (by assumption)) ?_
      rotate_left
      · intro w hSw; go_simp; try with_reducible rfl
      try simp only [Act.put, List.setIfInBounds_toArray, List.set_cons_zero, List.set_cons_succ]
      refine wpAnyG_takeU (i := 13) (oi := { dst := some 62, op := Op.binOp BinOp.eql 33 (Operand.tmp 60) (Operand.tmp 61) 33, type := 4, pos := "request.go:141", after := #[{ on := 11, ground := Ground.data }, { on := 12, ground := Ground.data }, { on := 8, ground := Ground.guard }], guard := some (8, false) }) (v := ?_) rfl (by kernel_rfl) (by kernel_rfl) (by kernel_rfl) (by decide) (fun _ _ _ h => h) (Or.inl ⟨by rfl, ?_⟩) (.inl (by assumption)) ?_
      rotate_left
      · intro w hSw; go_simp; try with_reducible rfl
      try simp only [Act.put, List.setIfInBounds_toArray, List.set_cons_zero, List.set_cons_succ]
      refine wpAnyG_takeU (i := 14) (oi := { dst := some 63, op := Op.pick (Operand.tmp 57) (Operand.const (Value.bool true)) (Operand.tmp 62), type := 4, pos := "request.go:141", after := #[{ on := 8, ground := Ground.data }, { on := 13, ground := Ground.data }], guard := none }) (v := ?_) rfl (by kernel_rfl) (by kernel_rfl) (by kernel_rfl) (by decide) (fun _ _ _ h => h) (Or.inl ⟨by rfl, ?_⟩) (.inl (by assumption)) ?_
      rotate_left
      · intro w hSw; go_simp; try with_reducible rfl
      try simp only [Act.put, List.setIfInBounds_toArray, List.set_cons_zero, List.set_cons_succ]
      refine wpAnyG_one (i := 15) (o := { dst := some 64, op := Op.call { callee := Callee.value (Operand.func 148), args := #[Operand.tmp 51, Operand.tmp 63], argTypes := #[97, 4] }, type := 0, pos := "request.go:141", after := #[{ on := 2, ground := Ground.data }, { on := 14, ground := Ground.data }, { on := 8, ground := Ground.chain }], guard := none }) (by kernel_rfl) rfl (fun K hK => ?_)
      go_simp
      refine (pweigh_any 125 _ g _ qz _ HX.out rfl).mono ?_
      rintro e w6 ⟨rfl, hx6, ht6⟩
      replace HB5 := Lib.hid ((ht6.block b (block_lt HB5.out) (HNB.out h0).1).trans HB5.out)
      replace HY := Lib.hid ((ht6.block gq (block_lt HY.out) HNE.out).trans HY.out)
      replace HX := Lib.hid hx6
      replace HT := Lib.hid (HT.out.trans (ht6.mono fun i _ h => .inl h))
      clear hx6 ht6 hHeld
      refine hK.out _ _ (.inr rfl) ?_
      clear hK K
      try simp only [Act.put, List.setIfInBounds_toArray, List.set_cons_zero, List.set_cons_succ]
      refine wpAnyG_done (by kernel_rfl) ?_ _
      go_wp2
      go_roundw
      case rel =>
        refine ⟨k + 1, by omega, by go_num, ?_, HY.out, fun _ => ⟨_, HB5.out, fun j hj => ?_⟩, HT.out⟩
        · rw [HX.out, take_sn HXK.out, List.all_append]
          have hz : Rq.plainC x = (flyB x.fl x.dy x.va && qz) := by
            rw [← HQZ.out]; unfold Rq.plainC Cpn.eqB; rw [Bool.eq_iff_iff]; simp [and_assoc]
          simp only [List.all_cons, List.all_nil, Bool.and_true, hz, Bool.and_assoc]
          rfl
        · rw [Array.getElem?_setIfInBounds_ne (by omega), Array.getElem?_setIfInBounds_ne (by omega), Array.getElem?_setIfInBounds_ne (by omega)]
          exact HEQ.out j (by omega)
      case measure => simp [intOf]; omega
    · obtain rfl : k = n := by omega
      go_wp2_with fail
      refine (pweighs_any 125 _ g _ HX.out rfl rfl).mono ?_
      rintro e wn ⟨rfl, hwn⟩
      subst hwn
      go_wp2
      first | go_end0 | refine bodyPost_ret (results_none rfl _ _ _) rfl ?_
      refine ⟨rfl, (heap_setCell_other _ _ _ _ (Ne.symm HNE.out)).trans ?_, heap_setCell_same _ _ _ _ _ _ HY.out, HT.out.setCell (.inr (.inl rfl)) _ _⟩
      rw [HX.out, List.take_of_length_le (by have := HLN.out; omega), Bool.and_assoc]
end Go.Proofs.YtbmphlpmipkpcaaGreat
