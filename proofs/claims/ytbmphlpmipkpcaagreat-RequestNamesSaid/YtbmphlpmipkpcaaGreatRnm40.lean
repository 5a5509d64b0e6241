/- Contract: the bytes of an empty answer (request.AnswerBytes), a closed sentence. Plain facts: which texts are numbers, above a bound or not; no program in sight. -/
import Derived.Test.YtbmphlpmipkpcaaGreatRnm39
import Derived.Test.YtbmphlpmipkpcaaGreatRnm1
import GoSem.Op.String

section
set_option linter.unusedVariables false
set_option linter.unusedSimpArgs false
namespace Go.Proofs.YtbmphlpmipkpcaaGreat
open Go.RowKit Go.Deep

theorem An_execLoad (ρ : Operand → Value) (dst : Option Tmp) (x : Operand) (ty : TypeId) (pos : String) (after : Array Edge) (guard : Option (Nat × Bool)) :
    execOp ρ { dst, op := .load 44 x, type := ty, pos, after, guard } = recLoad 44 (ρ x) := rfl
theorem An_execStore (ρ : Operand → Value) (dst : Option Tmp) (x y : Operand) (ty : TypeId) (pos : String) (after : Array Edge) (guard : Option (Nat × Bool)) :
    execOp ρ { dst, op := .store 44 x y, type := ty, pos, after, guard } = recStore 44 (ρ x) (ρ y) := rfl
theorem An_load (w : World) (b o : Nat) (h : okL 4 w b o) : (recLoad 44 (.pointer (some ⟨b, o, none⟩))).run Tryz.prog w = .ok (.value (.agg (loL 4 w b o).toArray)) w := by
  unfold recLoad
  rw [Sem.run_bind, run_load_rec 4 Tryz.underlying44 rfl (by kernel_rfl) w b o h]
  rfl
theorem An_store (w : World) (b o : Nat) (cs : List Value) (ht : w.there b o 4) (hn : cs.length = 4) (h1 : cs.all (·.oneCell') = true) :
    (recStore 44 (.pointer (some ⟨b, o, none⟩)) (.agg cs.toArray)).run Tryz.prog w = .ok .skip (w.setCells b o cs) := by
  unfold recStore
  rw [Sem.run_bind, run_store_rec 4 (by kernel_rfl) w b o cs ht hn h1]
  rfl
attribute [local go_sem ↓] An_execLoad An_execStore

attribute [local go_sem] An_load An_store loL_drew okL_drew there_sc World.there_drew

theorem idxLoan0_any (v : Value) (w : World) : Calls Tryz.prog 169 #[.slice none 0 0, v] w fun e w' => e = .returned (.int .i64 (-1)) ∧ w = w' := by
  go_enter Tryz.func169, Tryz.ntmps169
  go_wp2
  go_loopw [8] (fun i wr => i = .int .i64 0 ∧ w = wr) (fun _ _ => 0)
  case atStart => exact ⟨rfl, rfl⟩
  case round =>
    obtain ⟨rfl, rfl⟩ := hrel
    go_wp2
    go_ret
    exact ⟨rfl, rfl⟩
theorem hasLoan0_any (v : Value) (w : World) : Calls Tryz.prog 96 #[.slice none 0 0, v] w fun e w' => e = .returned (.bool false) ∧ w = w' := by
  go_enter Tryz.func96, Tryz.ntmps96
  go_wp2_with (go_at_call 169; refine (idxLoan0_any _ _).mono ?_; rintro e w1 ⟨rfl, rfl⟩)
  go_ret
  exact ⟨rfl, rfl⟩
theorem long0_any (w : World) : Calls Tryz.prog 85 #[.agg #[.int .i64 6, .slice none 0 0, .slice none 0 0, .slice none 0 0]] w fun e w' => e = .returned (.bool false) ∧ Below w.heap.size w w' := by
  have kc := fun j => cell_of_row _ w.heap.size j _ _ _ (new_rowW w (.cells #[.int .i64 6, .slice none 0 0, .slice none 0 0, .slice none 0 0] 44 (0, 0)) _ rfl)
  go_enter Tryz.func85, Tryz.ntmps85
  go_wp2
  go_ret
  exact ⟨rfl, (Below.refl _ _).alloc (Nat.le_refl _) _⟩
set_option maxHeartbeats 1000000 in
theorem mayAns0_any (w : World) : Calls Tryz.prog 45 #[.agg #[.int .i64 6, .slice none 0 0, .slice none 0 0, .slice none 0 0]] w fun e w' => e = .returned (.bool true) ∧ Below w.heap.size w w' := by
  have HR := Lib.hid (new_rowW w (.cells #[.int .i64 6, .slice none 0 0, .slice none 0 0, .slice none 0 0] 44 (0, 0)) _ rfl)
  have HB := Lib.hid ((Below.refl w.heap.size w).alloc (Nat.le_refl _) (.cells #[.int .i64 6, .slice none 0 0, .slice none 0 0, .slice none 0 0] 44 (0, 0)))
  obtain ⟨f1, f2⟩ := row_loT 4 HR.out rfl rfl
  go_enter Tryz.func45, Tryz.ntmps45
  go_wp2_with fail
  clear f1 f2
  refine (long0_any _).mono ?_
  rintro e w1 ⟨rfl, hb⟩
  have HR1 := Lib.hid ((hb.block _ (block_lt HR.out)).trans HR.out)
  have HB1 := Lib.hid (HB.out.trans (hb.mono HB.out.size))
  clear hb
  have kc := fun j => cell_of_row w1 w.heap.size j _ _ _ HR1.out
  go_wp2
  go_loopw [22] (fun i wr => i = .int .i64 0 ∧ w1 = wr) (fun _ _ => 0)
  case atStart => exact ⟨rfl, rfl⟩
  case round =>
    obtain ⟨rfl, rfl⟩ := hrel
    go_wp2
    go_loopw [33] (fun i wr => i = .int .i64 0 ∧ w1 = wr) (fun _ _ => 0)
    case atStart => exact ⟨rfl, rfl⟩
    case round =>
      obtain ⟨rfl, rfl⟩ := hrel
      go_wp2_with (go_at_call 96; refine (hasLoan0_any _ _).mono ?_; rintro e w2 ⟨rfl, rfl⟩)
      go_ret
      exact ⟨rfl, HB1.out⟩

set_option maxRecDepth 8000 in
set_option maxHeartbeats 2000000 in
theorem ansBytes0_any (w : World) : Calls Tryz.prog 43 #[.agg #[.int .i64 6, .slice none 0 0, .slice none 0 0, .slice none 0 0]] w fun e w' => ∃ v, e = .returned (.tuple #[v, .int .i64 0]) ∧ w'.ownsRow w.heap.size 5 1 v (((([] ++ Wire.be 6 1) ++ Wire.be 0 2) ++ Wire.be 0 2) ++ Wire.be 0 2 : List UInt8).length (bytesV (((([] ++ Wire.be 6 1) ++ Wire.be 0 2) ++ Wire.be 0 2) ++ Wire.be 0 2)) ∧ Below w.heap.size w w' := by
  have HR := Lib.hid (new_rowW w (.cells #[.int .i64 6, .slice none 0 0, .slice none 0 0, .slice none 0 0] 44 (0, 0)) _ rfl)
  have HB := Lib.hid ((Below.refl w.heap.size w).alloc (Nat.le_refl _) (.cells #[.int .i64 6, .slice none 0 0, .slice none 0 0, .slice none 0 0] 44 (0, 0)))
  obtain ⟨f1, f2⟩ := row_loT 4 HR.out rfl rfl
  go_enter Tryz.func43, Tryz.ntmps43
  go_wp2_with fail
  clear f1 f2
  refine (long0_any _).mono ?_
  rintro e w1 ⟨rfl, hb⟩
  replace HR := Lib.hid ((hb.block _ (block_lt HR.out)).trans HR.out)
  replace HB := Lib.hid (HB.out.trans (hb.mono HB.out.size))
  clear hb
  obtain ⟨f1, f2⟩ := row_loT 4 HR.out rfl rfl
  go_wp2_with fail
  clear f1 f2
  refine (mayAns0_any _).mono ?_
  rintro e w1b ⟨rfl, hb⟩
  replace HR := Lib.hid ((hb.block _ (block_lt HR.out)).trans HR.out)
  replace HB := Lib.hid (HB.out.trans (hb.mono HB.out.size))
  clear hb
  go_upto_region 5 with fail
  refine wp_region_G (C := fun W => W.cell? ⟨w.heap.size, 0, none⟩ = some (.int .i64 6) ∧ W.cell? ⟨w.heap.size, 1, none⟩ = some (.slice none 0 0)) (s0 := 8) (by kernel_rfl) ?_
  have hbn := (Below.refl w1b.heap.size w1b).drew
  have HR2 := Lib.hid ((hbn.block _ (block_lt HR.out)).trans HR.out)
  have HB2 := Lib.hid (HB.out.trans (hbn.mono HB.out.size))
  clear hbn HR HB
  generalize w1b.drew = w2 at *
  have hHeld := (⟨cell_of_row _ _ 0 _ _ _ HR2.out, cell_of_row _ _ 1 _ _ _ HR2.out⟩ : w2.cell? ⟨w.heap.size, 0, none⟩ = some (.int .i64 6) ∧ w2.cell? ⟨w.heap.size, 1, none⟩ = some (.slice none 0 0))
  have HCA : Hid ((w2.alloc (.cells #[.slice none 0 0, .int .i64 0, .bool false] 138)).cell? ⟨w.heap.size, 0, none⟩ = some (.int .i64 6) ∧ (w2.alloc (.cells #[.slice none 0 0, .int .i64 0, .bool false] 138)).cell? ⟨w.heap.size, 1, none⟩ = some (.slice none 0 0)) := Lib.hid ⟨cell_of_row _ _ 0 _ _ _ (row_allocW HR2.out _), cell_of_row _ _ 1 _ _ _ (row_allocW HR2.out _)⟩
  have HBW : Hid (w.heap.size ≤ w2.heap.size) := Lib.hid HB2.out.size
  refine wpAnyG_takeU (i := 1) (oi := { dst := some 23, op := Op.fieldAddr 44 (Operand.tmp 1) 0, type := 0, pos := "request.go:408", after := #[], guard := none }) (v := ?_) rfl (by kernel_rfl) (by kernel_rfl) (by kernel_rfl) (by decide) (fun _ _ _ h => h) (Or.inl ⟨by rfl, ?_⟩) (.inl (by assumption)) ?_
  rotate_left
  · intro w hSw; go_simp; try with_reducible rfl
  try simp only [Act.put, List.setIfInBounds_toArray, List.set_cons_zero, List.set_cons_succ]
  refine wpAnyG_takeM (i := 2) (oi := { dst := some 24, op := Op.load 39 (Operand.tmp 23), type := 39, pos := "request.go:408", after := #[{ on := 1, ground := Ground.data }], guard := none }) (v := ?_) (ms := [3, 4, 8, 9, 10, 11]) rfl (by kernel_rfl) (by kernel_rfl) (by kernel_rfl) (by kernel_rfl) (by kernel_rfl) (fun _ _ _ h => h) (Or.inl ⟨by rfl, ?_⟩) (by assumption) ?_
  rotate_left
  · intro w hSw; (try dsimp only at hSw); go_simp; try with_reducible rfl
  try simp only [Act.put, List.setIfInBounds_toArray, List.set_cons_zero, List.set_cons_succ]
  refine wpAnyG_takeU (i := 3) (oi := { dst := some 25, op := Op.convert 39 22 (Operand.tmp 24), type := 22, pos := "request.go:408", after := #[{ on := 2, ground := Ground.data }], guard := none }) (v := ?_) rfl (by kernel_rfl) (by kernel_rfl) (by kernel_rfl) (by decide) (fun _ _ _ h => h) (Or.inl ⟨by rfl, ?_⟩) (.inl (by assumption)) ?_
  rotate_left
  · intro w hSw; go_simp; try with_reducible rfl
  try simp only [Act.put, List.setIfInBounds_toArray, List.set_cons_zero, List.set_cons_succ]
  refine wpAnyG_takeU (i := 5) (oi := { dst := some 27, op := Op.fieldAddr 44 (Operand.tmp 1) 1, type := 0, pos := "request.go:408", after := #[], guard := none }) (v := ?_) rfl (by kernel_rfl) (by kernel_rfl) (by kernel_rfl) (by decide) (fun _ _ _ h => h) (Or.inl ⟨by rfl, ?_⟩) (.inl (by assumption)) ?_
  rotate_left
  · intro w hSw; go_simp; try with_reducible rfl
  try simp only [Act.put, List.setIfInBounds_toArray, List.set_cons_zero, List.set_cons_succ]
  refine wpAnyG_takeM (i := 6) (oi := { dst := some 28, op := Op.load 40 (Operand.tmp 27), type := 40, pos := "request.go:408", after := #[{ on := 5, ground := Ground.data }], guard := none }) (v := ?_) (ms := [7, 8, 9, 10, 11]) rfl (by kernel_rfl) (by kernel_rfl) (by kernel_rfl) (by kernel_rfl) (by kernel_rfl) (fun _ _ _ h => h) (Or.inl ⟨by rfl, ?_⟩) (by assumption) ?_
  rotate_left
  · intro w hSw; (try dsimp only at hSw); go_simp; try with_reducible rfl
  try simp only [Act.put, List.setIfInBounds_toArray, List.set_cons_zero, List.set_cons_succ]
  refine wpAnyG_takeU (i := 7) (oi := { dst := some 29, op := Op.call { callee := Callee.builtin Builtin.len, args := #[Operand.tmp 28], argTypes := #[40] }, type := 3, pos := "request.go:408", after := #[{ on := 6, ground := Ground.data }], guard := none }) (v := ?_) rfl (by kernel_rfl) (by kernel_rfl) (by kernel_rfl) (by decide) (fun _ _ _ h => h) (Or.inl ⟨by rfl, ?_⟩) (.inl (by assumption)) ?_
  rotate_left
  · intro w hSw; go_simp; try with_reducible rfl
  try simp only [Act.put, List.setIfInBounds_toArray, List.set_cons_zero, List.set_cons_succ]
  refine wpAnyG_one (i := 0) (o := { dst := some 22, op := Op.alloc 138, type := 95, pos := "request.go:408", after := #[], guard := none }) (by kernel_rfl) rfl (fun K hK => ?_)
  go_simp
  refine hK.out _ _ (.inl HCA.out) ?_
  clear hK K hHeld
  try simp only [Act.put, List.setIfInBounds_toArray, List.set_cons_zero, List.set_cons_succ]
  have hHeld := HCA.out
  refine wpAnyG_one (i := 4) (o := { dst := some 26, op := Op.call { callee := Callee.value (Operand.func 77), args := #[Operand.tmp 22, Operand.tmp 25, Operand.const (Value.int IntKind.i64 1)], argTypes := #[95, 22, 3] }, type := 95, pos := "request.go:408", after := #[{ on := 0, ground := Ground.data }, { on := 3, ground := Ground.data }], guard := none }) (by kernel_rfl) rfl (fun K hK => ?_)
  go_simp
  refine (wnumber_okE (new_writer w2) (by omega) 6 1 (by decide) (by decide)).mono ?_
  rintro e w3 ⟨rfl, hst⟩
  have HW3 : Hid (IsW w3 w2.heap.size w2.heap.size (0 + 9) (some ([] ++ Wire.be 6 1))) := Lib.hid hst.1
  have hb3 := hst.2.1
  have HR3 := Lib.hid ((hb3.block _ (block_lt HR2.out)).trans (row_allocW HR2.out (.cells #[.slice none 0 0, .int .i64 0, .bool false] 138)))
  have HB3 := Lib.hid ((HB2.out.alloc HB2.out.size (.cells #[.slice none 0 0, .int .i64 0, .bool false] 138)).trans (hb3.mono HB2.out.size))
  clear hst hb3
  refine hK.out _ _ (.inl ⟨cell_of_row _ _ 0 _ _ _ HR3.out, cell_of_row _ _ 1 _ _ _ HR3.out⟩) ?_
  clear hK K hHeld
  try simp only [Act.put, List.setIfInBounds_toArray, List.set_cons_zero, List.set_cons_succ]
  have hHeld := (⟨cell_of_row _ _ 0 _ _ _ HR3.out, cell_of_row _ _ 1 _ _ _ HR3.out⟩ : w3.cell? ⟨w.heap.size, 0, none⟩ = some (.int .i64 6) ∧ w3.cell? ⟨w.heap.size, 1, none⟩ = some (.slice none 0 0))
  generalize w2.heap.size = bw at *
  refine wpAnyG_one (i := 8) (o := { dst := some 30, op := Op.call { callee := Callee.value (Operand.func 86), args := #[Operand.tmp 26, Operand.tmp 29], argTypes := #[95, 3] }, type := 95, pos := "request.go:408", after := #[{ on := 4, ground := Ground.data }, { on := 7, ground := Ground.data }, { on := 4, ground := Ground.chain }], guard := none }) (by kernel_rfl) rfl (fun K hK => ?_)
  go_simp
  refine (wcount_any _ _ _ _ 0 (by decide) (by omega) w3 HW3.out).mono ?_
  rintro e w4 ⟨rfl, hst⟩
  have HW4 := Lib.hid hst.1
  have HR4 := Lib.hid (hst.2.2.row HR3.out (by decide))
  have HB4 := Lib.hid (HB3.out.trans (hst.2.1.mono HBW.out))
  clear hst
  refine hK.out _ _ (.inr rfl) ?_
  clear hK K hHeld
  try simp only [Act.put, List.setIfInBounds_toArray, List.set_cons_zero, List.set_cons_succ]
  refine wpAnyG_takeU (i := 9) (oi := { dst := some 31, op := Op.build 97 #[(0, Operand.tmp 30)], type := 97, pos := "request.go:408", after := #[{ on := 8, ground := Ground.data }], guard := none }) (v := ?_) rfl (by kernel_rfl) (by kernel_rfl) (by kernel_rfl) (by decide) (fun _ _ _ h => h) (Or.inl ⟨by rfl, ?_⟩) (.inr rfl) ?_
  rotate_left
  · intro w hSw; go_simp; try with_reducible rfl
  try simp only [Act.put, List.setIfInBounds_toArray, List.set_cons_zero, List.set_cons_succ]
  refine wpAnyG_one (i := 10) (o := { dst := some 32, op := Op.box 97 (Operand.tmp 31), type := 92, pos := "request.go:408", after := #[{ on := 9, ground := Ground.data }], guard := none }) (by kernel_rfl) rfl (fun K hK => ?_)
  go_simp
  refine hK.out _ _ (.inr rfl) ?_
  clear hK K
  try simp only [Act.put, List.setIfInBounds_toArray, List.set_cons_zero, List.set_cons_succ]
  refine wpAnyG_takeU (i := 11) (oi := { dst := some 4, op := Op.assign (Operand.tmp 32), type := 92, pos := "request.go:408", after := #[{ on := 10, ground := Ground.data }, { on := 8, ground := Ground.chain }, { on := 0, ground := Ground.phase }, { on := 1, ground := Ground.phase }, { on := 2, ground := Ground.phase }, { on := 3, ground := Ground.phase }, { on := 4, ground := Ground.phase }, { on := 5, ground := Ground.phase }, { on := 6, ground := Ground.phase }, { on := 7, ground := Ground.phase }, { on := 8, ground := Ground.phase }, { on := 9, ground := Ground.phase }, { on := 10, ground := Ground.phase }], guard := none }) (v := ?_) rfl (by kernel_rfl) (by kernel_rfl) (by kernel_rfl) (by decide) (fun _ _ _ h => h) (Or.inl ⟨by rfl, ?_⟩) (.inr rfl) ?_
  rotate_left
  · intro w hSw; go_simp; try with_reducible rfl
  try simp only [Act.put, List.setIfInBounds_toArray, List.set_cons_zero, List.set_cons_succ]
  refine wpAnyG_done (by kernel_rfl) ?_ _
  have hwr : Wire.wNum (some ([] ++ Wire.be 6 1)) (Int.toNat 0) 2 = some (([] ++ Wire.be 6 1) ++ Wire.be 0 2) := wnum_okE (k := 2) (by decide) (by decide)
  rw [if_neg (by decide)] at HW4
  rw [hwr] at HW4
  clear hwr
  have hba := (Below.refl w4.heap.size w4).alloc (Nat.le_refl _) (.cells #[.pointer (some ⟨bw, 0, none⟩), .pointer none, .bool false] 97)
  have HX5 := Lib.hid (new_rowW w4 (.cells #[.pointer (some ⟨bw, 0, none⟩), .pointer none, .bool false] 97) _ rfl)
  have HR5 := Lib.hid (row_allocW HR4.out (.cells #[.pointer (some ⟨bw, 0, none⟩), .pointer none, .bool false] 97))
  have HW5 := Lib.hid (HW4.out.below hba)
  have HB5 := Lib.hid (HB4.out.trans (hba.mono HB4.out.size))
  clear hba HR4 HW4 HB4 HW3 HB3 HR3 HR2 HB2 HCA
  generalize w4.alloc (.cells #[.pointer (some ⟨bw, 0, none⟩), .pointer none, .bool false] 97) = w5 at *
  generalize w4.heap.size = gx at *
  have ka := fun j => cell_of_row w5 w.heap.size j _ _ _ HR5.out
  have kx := fun j => cell_of_row w5 gx j _ _ _ HX5.out
  go_wp2
  go_loopw [36] (fun i wr => i = .int .i64 0 ∧ w5 = wr) (fun _ _ => 0)
  case atStart => exact ⟨rfl, rfl⟩
  case round =>
    obtain ⟨rfl, rfl⟩ := hrel
    go_upto_region 12 with fail
    have hbx := block_lt HX5.out; have hba := block_lt HR5.out
    go_still_tail 7, (by kernel_rfl)
    change wpList _ _ _ _ _ (w5.drew)
    go_wp2_with fail
    refine (wcount_any _ _ _ _ 0 (by decide) (by omega) w5.drew (HW5.out.below (Below.refl w5.heap.size w5).drew)).mono ?_
    rintro e w6 ⟨rfl, hst⟩
    have HW6 := Lib.hid hst.1
    have HR6 := Lib.hid (hst.2.2.row HR5.out (by decide))
    have HX6 := Lib.hid (hst.2.2.row HX5.out (by decide))
    have HB6 := Lib.hid (HB5.out.drew.trans (hst.2.1.mono HBW.out))
    clear hst ka kx hbx hba
    have hwr : Wire.wNum (some (([] ++ Wire.be 6 1) ++ Wire.be 0 2)) (Int.toNat 0) 2 = some ((([] ++ Wire.be 6 1) ++ Wire.be 0 2) ++ Wire.be 0 2) := wnum_okE (k := 2) (by decide) (by decide)
    rw [if_neg (by decide)] at HW6
    rw [hwr] at HW6
    clear hwr
    have ka := fun j => cell_of_row w6 w.heap.size j _ _ _ HR6.out
    have kx := fun j => cell_of_row w6 gx j _ _ _ HX6.out
    go_wp2
    go_loopw [63] (fun i wr => i = .int .i64 0 ∧ w6 = wr) (fun _ _ => 0)
    case atStart => exact ⟨rfl, rfl⟩
    case round =>
      obtain ⟨rfl, rfl⟩ := hrel
      go_upto_region 19 with fail
      have hbx := block_lt HX6.out; have hba := block_lt HR6.out
      go_still_tail 7, (by kernel_rfl)
      change wpList _ _ _ _ _ (w6.drew)
      go_wp2_with fail
      refine (wcount_any _ _ _ _ 0 (by decide) (by omega) w6.drew (HW6.out.below (Below.refl w6.heap.size w6).drew)).mono ?_
      rintro e w7 ⟨rfl, hst⟩
      have HW7 := Lib.hid hst.1
      have HR7 := Lib.hid (hst.2.2.row HR6.out (by decide))
      have HX7 := Lib.hid (hst.2.2.row HX6.out (by decide))
      have HB7 := Lib.hid (HB6.out.drew.trans (hst.2.1.mono HBW.out))
      clear hst ka kx hbx hba
      have hwr : Wire.wNum (some ((([] ++ Wire.be 6 1) ++ Wire.be 0 2) ++ Wire.be 0 2)) (Int.toNat 0) 2 = some (((([] ++ Wire.be 6 1) ++ Wire.be 0 2) ++ Wire.be 0 2) ++ Wire.be 0 2) := wnum_okE (k := 2) (by decide) (by decide)
      rw [if_neg (by decide)] at HW7
      rw [hwr] at HW7
      clear hwr
      have ka := fun j => cell_of_row w7 w.heap.size j _ _ _ HR7.out
      have kx := fun j => cell_of_row w7 gx j _ _ _ HX7.out
      go_wp2
      go_loopw [90] (fun i wr => i = .int .i64 0 ∧ w7 = wr) (fun _ _ => 0)
      case atStart => exact ⟨rfl, rfl⟩
      case round =>
        obtain ⟨rfl, rfl⟩ := hrel
        go_wp2_with fail
        refine (wend_some _ _ _ _ (by omega) _ HW7.out).mono ?_
        rintro e w8 ⟨u, rfl, hown, hb5⟩
        have HO := Lib.hid (own_monoT hown HB7.out.size)
        have HB8 := Lib.hid (HB7.out.trans (hb5.mono HB7.out.size))
        clear hown hb5 ka kx
        obtain ⟨q5, c5, hv5⟩ := rec_formT HO.out
        subst hv5
        generalize hL : (((([] ++ Wire.be 6 1) ++ Wire.be 0 2) ++ Wire.be 0 2) ++ Wire.be 0 2 : List UInt8) = L at *
        have HL := Lib.hid hL
        clear hL
        generalize hn : L.length = nl at *
        have HNL := Lib.hid hn
        clear hn
        go_wp2
        go_ret2
        refine ⟨_, rfl, ?_, HB8.out⟩
        have hl := HL.out
        rw [List.nil_append] at hl
        rw [hl, HNL.out]
        exact HO.out
end Go.Proofs.YtbmphlpmipkpcaaGreat
end

section
namespace Go.Proofs.YtbmphlpmipkpcaaGreat.Dec

def mayDec (l : List UInt8) : Bool := l.all isDig && (decide (l = [48]) || (decide (l ≠ []) && decide (l.getD 0 0 ≠ 48)))
/-- an error's number -/
def decE (l : List UInt8) (most : Nat) : Nat := if mayDec l = true then (if most < val l then 5 else 0) else 4
def decN (l : List UInt8) (most : Nat) : Nat := if decE l most = 0 then val l else 0

theorem less_val {a b : List UInt8} (ha : a.all isDig = true) (hb : b.all isDig = true) (h : a.length = b.length) : Op.bytesLess a b = decide (val a < val b) := by
  induction a generalizing b with
  | nil =>
    obtain rfl : b = [] := List.length_eq_zero_iff.1 h.symm
    rfl
  | cons x a ih =>
    cases b with
    | nil => simp at h
    | cons y b =>
      simp only [List.all_cons, Bool.and_eq_true] at ha hb
      have hl : a.length = b.length := by simpa using h
      have h1 := ih ha.2 hb.2 hl
      have e1 : val (x :: a) = dval x * 10 ^ a.length + val a := by
        show valF 0 (x :: a) = _
        rw [valF_cons, valF_lin]; simp
      have e2 : val (y :: b) = dval y * 10 ^ b.length + val b := by
        show valF 0 (y :: b) = _
        rw [valF_cons, valF_lin]; simp
      have v1 := val_lt a ha.2
      have v2 := val_lt b hb.2
      rw [hl] at v1 e1
      have d1 := isDig_iff.1 ha.1
      have d2 := isDig_iff.1 hb.1
      have ex : dval x = x.toNat - 48 := rfl
      have ey : dval y = y.toNat - 48 := rfl
      rw [e1, e2]
      show (decide (x < y) || (x == y && Op.bytesLess a b)) = _
      rw [h1]
      generalize 10 ^ b.length = p at *
      rcases Nat.lt_trichotomy x.toNat y.toNat with hlt | heq | hgt
      · have : x < y := UInt8.lt_iff_toNat_lt.2 hlt
        have hm : (dval x + 1) * p ≤ dval y * p := Nat.mul_le_mul_right p (by omega)
        rw [Nat.add_mul] at hm
        have hv : dval x * p + val a < dval y * p + val b := by omega
        simp [this, hv]
      · have : x = y := UInt8.toNat_inj.1 heq
        subst this
        have hx : ¬ x < x := by rw [UInt8.lt_iff_toNat_lt]; omega
        simp [hx]
      · have : ¬ x < y := by rw [UInt8.lt_iff_toNat_lt]; omega
        have hne : ¬ x = y := fun e => by rw [e] at hgt; omega
        have hm : (dval y + 1) * p ≤ dval x * p := Nat.mul_le_mul_right p (by omega)
        rw [Nat.add_mul] at hm
        have hv : ¬ dval x * p + val a < dval y * p + val b := by omega
        simp [this, hne, hv]
theorem val_inj {a b : List UInt8} (ha : a.all isDig = true) (hb : b.all isDig = true) (h : a.length = b.length) (hv : val a = val b) : a = b := by
  rw [← val_text a ha, ← val_text b hb, h, hv]
theorem mayDec_all {l : List UInt8} (h : mayDec l = true) : l.all isDig = true := by unfold mayDec at h; rw [Bool.and_eq_true] at h; exact h.1
theorem mayDec_lead {l : List UInt8} (h : mayDec l = true) (h1 : 1 < l.length) : 10 ^ (l.length - 1) ≤ val l := by
  have ha := mayDec_all h
  unfold mayDec at h
  simp only [Bool.and_eq_true, Bool.or_eq_true, decide_eq_true_eq] at h
  cases l with
  | nil => simp at h1
  | cons x a =>
    have h2 : x ≠ 48 := by
      rcases h.2 with h | h
      · rw [h] at h1; simp at h1
      · simpa using h.2
    simp only [List.all_cons, Bool.and_eq_true] at ha
    have d := isDig_iff.1 ha.1
    have hx : x.toNat ≠ 48 := fun e => h2 (UInt8.toNat_inj.1 e)
    have e1 : val (x :: a) = dval x * 10 ^ a.length + val a := by
      show valF 0 (x :: a) = _
      rw [valF_cons, valF_lin]; simp
    rw [e1, List.length_cons, Nat.add_sub_cancel]
    have : 1 * 10 ^ a.length ≤ dval x * 10 ^ a.length := Nat.mul_le_mul_right _ (by unfold dval; omega)
    omega
theorem mayDec_ne {l : List UInt8} (h : mayDec l = true) : l ≠ [] := by
  intro e; subst e; simp [mayDec] at h
theorem above_iff {l : List UInt8} (h : mayDec l = true) (most : Nat) :
    (decide ((digits most).length < l.length) || (decide (l.length = (digits most).length) && !(Op.bytesLess l (digits most) || l == digits most))) = decide (most < val l) := by
  have ht := digits_all most
  have hv := digits_val most
  have hl := mayDec_all h
  have hn := mayDec_ne h
  have hpos : 0 < l.length := by rcases l with _ | ⟨x, l⟩; exact absurd rfl hn; simp
  have htp : 0 < (digits most).length := by
    have := digits_ne most
    rcases hd : digits most with _ | ⟨x, r⟩
    · exact absurd hd this
    · simp
  rcases Nat.lt_trichotomy (digits most).length l.length with h1 | h1 | h1
  · have g1 := val_lt _ ht
    rw [hv] at g1
    have g2 := mayDec_lead h (by omega)
    have g3 := Nat.pow_le_pow_right (n := 10) (by decide) (show (digits most).length ≤ l.length - 1 by omega)
    have : most < val l := by omega
    simp [h1, this]
  · have h2 := less_val hl ht h1.symm
    rw [hv] at h2
    rw [h2]
    have h3 : ¬ (digits most).length < l.length := by omega
    by_cases he : l = digits most
    · subst he
      simp [hv]
    · have hne : val l ≠ most := fun e => he (val_inj hl ht h1.symm (by rw [e, hv]))
      have : (l == digits most) = false := by simpa using he
      rw [this, Bool.eq_iff_iff]
      simp [h1]
      omega
  · have g1 := val_lt _ hl
    have g2 : 10 ^ l.length ≤ most := by
      rcases Nat.lt_or_ge most (10 ^ l.length) with h3 | h3
      · have := digits_length_le most (l.length - 1) (by rw [show l.length - 1 + 1 = l.length from by omega]; exact h3)
        omega
      · exact h3
    have h3 : ¬ (digits most).length < l.length := by omega
    have h4 : ¬ l.length = (digits most).length := by omega
    have h5 : ¬ most < val l := by omega
    simp [h3, h4, h5]
theorem digits_lead (n : Nat) (h : 1 ≤ n) : (digits n).getD 0 0 ≠ 48 := by
  induction n using Nat.strongRecOn with
  | _ n ih =>
    by_cases hn : n < 10
    · rw [digits_lt hn]
      intro e
      have : (dig n).toNat = 48 := congrArg UInt8.toNat e
      rw [dig_toNat] at this
      omega
    · rw [digits_ge hn]
      have h1 := ih (n / 10) (by omega) (by omega)
      have h2 := digits_ne (n / 10)
      rcases hd : digits (n / 10) with _ | ⟨x, r⟩
      · exact absurd hd h2
      · rw [hd] at h1; simpa using h1
theorem mayDec_digits (n : Nat) : mayDec (digits n) = true := by
  unfold mayDec
  rw [digits_all]
  rcases Nat.eq_zero_or_pos n with h | h
  · subst h; rw [digits_lt (by decide)]; rfl
  · have h1 := digits_lead n h
    have h2 := digits_ne n
    have h3 : (decide (digits n ≠ []) && decide ((digits n).getD 0 0 ≠ 48)) = true := by
      rw [Bool.and_eq_true, decide_eq_true_eq, decide_eq_true_eq]; exact ⟨h2, h1⟩
    rw [h3]; simp
theorem decE_digits (n most : Nat) : decE (digits n) most = if most < n then 5 else 0 := by unfold decE; rw [if_pos (mayDec_digits n), digits_val]
theorem decN_digits (n most : Nat) : decN (digits n) most = if most < n then 0 else n := by
  unfold decN
  rw [decE_digits, digits_val]
  by_cases h : most < n
  · rw [if_pos h, if_pos h]; rfl
  · rw [if_neg h, if_neg h]; rfl
theorem val_take_le (l : List UInt8) (k : Nat) : val (l.take k) ≤ val l := by
  have h := val_append (l.take k) (l.drop k)
  rw [List.take_append_drop] at h
  have : val (l.take k) * 1 ≤ val (l.take k) * 10 ^ (l.drop k).length := Nat.mul_le_mul_left _ (Nat.pow_pos (by decide))
  omega
end Go.Proofs.YtbmphlpmipkpcaaGreat.Dec
end
