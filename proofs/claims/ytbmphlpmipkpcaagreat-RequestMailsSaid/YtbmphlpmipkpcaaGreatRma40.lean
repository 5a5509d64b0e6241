/- Contract: the mail of bytes (request.MailOf). -/
import Derived.Test.YtbmphlpmipkpcaaGreatRma38
import Derived.Test.YtbmphlpmipkpcaaGreatRma39

set_option linter.unusedVariables false
set_option linter.unusedSimpArgs false
namespace Go.Proofs.YtbmphlpmipkpcaaGreat
open Go.RowKit

theorem u64_rNumM (s : Option (List UInt8)) : U64 (rNumV s 8 : Int) := by
  have h : rNumV s 8 < 18446744073709551616 := rNumV_lt s 8
  exact ⟨by omega, by omega⟩
theorem loadMl {w : World} {g : Nat} {cs : Array Value} {e : TypeId} (h : w.heap[g]? = some (.cells cs e (0, 0))) (hs : cs.size = 11) : (loadVar 78 ⟨g, 0, none⟩).run Tryz.prog w = .ok (.agg cs) w := by
  refine run_loadVar_row w g e 78 cs (0, 0) _ h Tryz.underlying78 rfl ?_
  rw [hs]; kernel_rfl
theorem i64_wrapM (z : Int) : I64 (wrap64 z) := by
  unfold wrap64
  exact ⟨by omega, by omega⟩
attribute [local go_sem ↓] ml_execLoad ml_execStore

attribute [local go_sem] ml_load ml_store loL_drew okL_drew there_sc World.there_drew

set_option maxRecDepth 8000 in
set_option maxHeartbeats 4000000 in
theorem mailOfD (v : Value) (b : List UInt8) (hl : b.length ≤ 1073741824) (h3 : rNumV (some b) 1 = 3) (w : World) (hv : BS w v b) :
    Calls Tryz.prog 40 #[v] w fun e w' => e = .returned (.tuple #[.agg (mOf b).arr, .int .i64 (if okM b = true then 0 else 4)]) ∧ Below w.heap.size w w' := by
  have HV := Lib.hid hv
  have HB1 := Lib.hid ((Below.refl w.heap.size w).alloc (Nat.le_refl _) (.cells #[.int .i64 0, .int .u64 0, .int .i64 0, .int .i64 0, .int .i64 0, .int .i64 0, .int .i64 0, .int .i64 0, .int .i64 0, .int .i64 0, .int .u64 0] 78))
  have HZ1 := Lib.hid (new_rowW w (.cells #[.int .i64 0, .int .u64 0, .int .i64 0, .int .i64 0, .int .i64 0, .int .i64 0, .int .i64 0, .int .i64 0, .int .i64 0, .int .i64 0, .int .u64 0] 78) _ rfl)
  have HRD := Lib.hid (read_any v b hl _ (hv.below HB1.out))
  obtain ⟨mb, hmb⟩ : ∃ q, Ltr.mailB 3 (rNumV (rNumS (some b) 1) 8 : Int) (rNumV (rNumS (rNumS (some b) 1) 8) 1 : Int) 0 (rNumV (rNumS (rNumS (rNumS (some b) 1) 8) 1) 1 : Int) 0 0 0 0 0 0 = q := ⟨_, rfl⟩
  have HMM := Lib.hid (fun W => mayMail_any 3 (rNumV (rNumS (some b) 1) 8 : Int) (rNumV (rNumS (rNumS (some b) 1) 8) 1 : Int) 0 (rNumV (rNumS (rNumS (rNumS (some b) 1) 8) 1) 1 : Int) 0 0 0 0 0 0 (u64_rNumM _) (by constructor <;> decide) W)
  rw [hmb] at HMM
  have HOKM : Hid (okM b = (decide (rNumS (rNumS (rNumS (rNumS (some b) 1) 8) 1) 1 = some []) && mb)) := Lib.hid (by unfold okM mEnd mGet; rw [if_pos h3, if_pos h3]; rw [← hmb]; rfl)
  have HOFM : Hid (mOf b = if okM b = true then ⟨3, (rNumV (rNumS (some b) 1) 8 : Int), (rNumV (rNumS (rNumS (some b) 1) 8) 1 : Int), 0, (rNumV (rNumS (rNumS (rNumS (some b) 1) 8) 1) 1 : Int), 0, 0, 0, 0, 0, 0⟩ else zMl) := Lib.hid (by unfold mOf mGet; rw [if_pos h3])
  have hlt1 : rNumV (some b) ((1 : Nat) : Int) < 256 := rNumV_lt _ 1
  obtain ⟨KV, hKV⟩ : ∃ z : Nat, rNumV (some b) 1 = z := ⟨_, rfl⟩
  skip
  have HKV := Lib.hid hKV
  have hlt2 : KV < 256 := by rw [← hKV]; exact hlt1
  have HWK : Hid (wrap64 (KV : Int) = 3) := Lib.hid (by rw [← hKV, h3]; unfold wrap64; omega)
  clear h3
  clear hmb hlt1 hv hKV hlt2
  generalize hok : okM b = ok at *
  generalize hmo : mOf b = mo at *
  clear hok hmo
  obtain ⟨ev, hev⟩ : ∃ z : Int, (if ok = true then 0 else 4) = z := ⟨_, rfl⟩
  rw [hev]
  have HEV := Lib.hid hev
  clear hev
  go_enter Tryz.func40, Tryz.ntmps40
  go_wp2_with fail
  generalize w.alloc (.cells #[.int .i64 0, .int .u64 0, .int .i64 0, .int .i64 0, .int .i64 0, .int .i64 0, .int .i64 0, .int .i64 0, .int .i64 0, .int .i64 0, .int .u64 0] 78) = w1 at *
  refine HRD.out.mono ?_
  rintro e w2 ⟨br, rfl, hi, hb2⟩
  have HI := Lib.hid hi
  have HB2 := Lib.hid hb2
  have HZ2 := Lib.hid ((hb2.block _ (block_lt HZ1.out)).trans HZ1.out)
  clear hi hb2
  go_upto_region 2 with fail
  have hb3 := ((Below.refl w2.heap.size w2).alloc (Nat.le_refl _) (.cells #[.int .i64 0, .int .u64 0, .int .i64 0, .int .i64 0, .int .i64 0, .int .i64 0, .int .i64 0, .int .i64 0, .int .i64 0, .int .i64 0, .int .u64 0] 78)).alloc (by simp) (.cells #[.pointer none, .pointer (some ⟨br, 0, none⟩), .bool false, .pointer (some ⟨w2.heap.size, 0, none⟩)] 146)
  have HI3 := Lib.hid (HI.out.below hb3)
  have HM3 := Lib.hid (row_allocW (new_rowW w2 (.cells #[.int .i64 0, .int .u64 0, .int .i64 0, .int .i64 0, .int .i64 0, .int .i64 0, .int .i64 0, .int .i64 0, .int .i64 0, .int .i64 0, .int .u64 0] 78) _ rfl) (.cells #[.pointer none, .pointer (some ⟨br, 0, none⟩), .bool false, .pointer (some ⟨w2.heap.size, 0, none⟩)] 146))
  have HX3 := Lib.hid (new_rowW (w2.alloc (.cells #[.int .i64 0, .int .u64 0, .int .i64 0, .int .i64 0, .int .i64 0, .int .i64 0, .int .i64 0, .int .i64 0, .int .i64 0, .int .i64 0, .int .u64 0] 78)) (.cells #[.pointer none, .pointer (some ⟨br, 0, none⟩), .bool false, .pointer (some ⟨w2.heap.size, 0, none⟩)] 146) (w2.heap.size + 1) (by simp))
  have HZ3 := Lib.hid ((hb3.block _ (block_lt HZ2.out)).trans HZ2.out)
  have HB3 := Lib.hid (HB2.out.trans (hb3.mono HB2.out.size))
  have HGL : Hid (w1.heap.size ≤ w2.heap.size) := Lib.hid HB2.out.size
  have hzl := block_lt HZ1.out
  clear hb3
  generalize ((w2.alloc (.cells #[.int .i64 0, .int .u64 0, .int .i64 0, .int .i64 0, .int .i64 0, .int .i64 0, .int .i64 0, .int .i64 0, .int .i64 0, .int .i64 0, .int .u64 0] 78)).alloc (.cells #[.pointer none, .pointer (some ⟨br, 0, none⟩), .bool false, .pointer (some ⟨w2.heap.size, 0, none⟩)] 146)) = w3 at *
  generalize hgx : w2.heap.size + 1 = gx at *
  generalize hgm : w2.heap.size = gm at *
  have hcx := fun j => cell_of_row w3 gx j _ _ _ HX3.out
  refine wp_region_G (C := fun W => W.cell? ⟨gx, 3, none⟩ = some (.pointer (some ⟨gm, 0, none⟩)) ∧ W.cell? ⟨gx, 1, none⟩ = some (.pointer (some ⟨br, 0, none⟩))) (s0 := 13) (by kernel_rfl) ?_
  have hbn := (Below.refl w3.heap.size w3).drew
  have HI3 := Lib.hid (HI3.out.below hbn)
  have HM3 := Lib.hid ((hbn.block _ (block_lt HM3.out)).trans HM3.out)
  have HX3 := Lib.hid ((hbn.block _ (block_lt HX3.out)).trans HX3.out)
  have HZ3 := Lib.hid ((hbn.block _ (block_lt HZ3.out)).trans HZ3.out)
  have HB3 := Lib.hid (HB3.out.trans (hbn.mono HB3.out.size))
  clear hbn hcx
  generalize w3.drew = wd at *
  have hHeld := (show wd.cell? ⟨gx, 3, none⟩ = some (.pointer (some ⟨gm, 0, none⟩)) ∧ wd.cell? ⟨gx, 1, none⟩ = some (.pointer (some ⟨br, 0, none⟩)) from ⟨cell_of_row _ _ 3 _ _ _ HX3.out, cell_of_row _ _ 1 _ _ _ HX3.out⟩)
  have hwk2 := HWK.out
  have hwk1 : IntKind.i64.wrap (KV : Int) = 3 := by have h9 := HWK.out; unfold wrap64 at h9; rw [IntKind.wrap_i64]; exact h9
  refine wpAnyG_takeU (i := 0) (oi := { dst := some 12, op := Op.move (Operand.tmp 4), type := 143, pos := "request.go:342", after := #[], guard := none }) (v := ?_) rfl (by kernel_rfl) (by kernel_rfl) (by kernel_rfl) (by decide) (fun _ _ _ h => h) (Or.inl ⟨by rfl, ?_⟩) (.inl (by assumption)) ?_
  rotate_left
  · intro w hSw; go_simp; try with_reducible rfl
  try simp only [Act.put, List.setIfInBounds_toArray, List.set_cons_zero, List.set_cons_succ]
  refine wpAnyG_takeU (i := 1) (oi := { dst := some 13, op := Op.nilCheck (Operand.tmp 12), type := 0, pos := "request.go:342", after := #[{ on := 0, ground := Ground.data }], guard := none }) (v := ?_) rfl (by kernel_rfl) (by kernel_rfl) (by kernel_rfl) (by decide) (fun _ _ _ h => h) (Or.inl ⟨by rfl, ?_⟩) (.inl (by assumption)) ?_
  rotate_left
  · intro w hSw; go_simp; try with_reducible rfl
  try simp only [Act.put, List.setIfInBounds_toArray, List.set_cons_zero, List.set_cons_succ]
  refine wpAnyG_takeU (i := 2) (oi := { dst := some 14, op := Op.fieldAddr 146 (Operand.tmp 13) 1, type := 0, pos := "request.go:342", after := #[{ on := 1, ground := Ground.data }], guard := none }) (v := ?_) rfl (by kernel_rfl) (by kernel_rfl) (by kernel_rfl) (by decide) (fun _ _ _ h => h) (Or.inl ⟨by rfl, ?_⟩) (.inl (by assumption)) ?_
  rotate_left
  · intro w hSw; go_simp; try with_reducible rfl
  try simp only [Act.put, List.setIfInBounds_toArray, List.set_cons_zero, List.set_cons_succ]
  refine wpAnyG_takeM (i := 3) (oi := { dst := some 15, op := Op.load 144 (Operand.tmp 14), type := 144, pos := "request.go:342", after := #[{ on := 2, ground := Ground.data }], guard := none }) (v := ?_) (ms := [11, 12, 13]) rfl (by kernel_rfl) (by kernel_rfl) (by kernel_rfl) (by kernel_rfl) (by kernel_rfl) (fun _ _ _ h => h) (Or.inl ⟨by rfl, ?_⟩) (by assumption) ?_
  rotate_left
  · intro w hSw; (try dsimp only at hSw); go_simp; try with_reducible rfl
  try simp only [Act.put, List.setIfInBounds_toArray, List.set_cons_zero, List.set_cons_succ]
  refine wpAnyG_takeU (i := 4) (oi := { dst := some 16, op := Op.move (Operand.tmp 4), type := 143, pos := "request.go:342", after := #[], guard := none }) (v := ?_) rfl (by kernel_rfl) (by kernel_rfl) (by kernel_rfl) (by decide) (fun _ _ _ h => h) (Or.inl ⟨by rfl, ?_⟩) (.inl (by assumption)) ?_
  rotate_left
  · intro w hSw; go_simp; try with_reducible rfl
  try simp only [Act.put, List.setIfInBounds_toArray, List.set_cons_zero, List.set_cons_succ]
  refine wpAnyG_takeU (i := 5) (oi := { dst := some 17, op := Op.nilCheck (Operand.tmp 16), type := 0, pos := "request.go:342", after := #[{ on := 4, ground := Ground.data }], guard := none }) (v := ?_) rfl (by kernel_rfl) (by kernel_rfl) (by kernel_rfl) (by decide) (fun _ _ _ h => h) (Or.inl ⟨by rfl, ?_⟩) (.inl (by assumption)) ?_
  rotate_left
  · intro w hSw; go_simp; try with_reducible rfl
  try simp only [Act.put, List.setIfInBounds_toArray, List.set_cons_zero, List.set_cons_succ]
  refine wpAnyG_takeU (i := 6) (oi := { dst := some 18, op := Op.fieldAddr 146 (Operand.tmp 17) 0, type := 0, pos := "request.go:342", after := #[{ on := 5, ground := Ground.data }], guard := none }) (v := ?_) rfl (by kernel_rfl) (by kernel_rfl) (by kernel_rfl) (by decide) (fun _ _ _ h => h) (Or.inl ⟨by rfl, ?_⟩) (.inl (by assumption)) ?_
  rotate_left
  · intro w hSw; go_simp; try with_reducible rfl
  try simp only [Act.put, List.setIfInBounds_toArray, List.set_cons_zero, List.set_cons_succ]
  refine wpAnyG_takeU (i := 7) (oi := { dst := some 19, op := Op.fieldAddr 97 (Operand.tmp 18) 1, type := 0, pos := "request.go:342", after := #[{ on := 6, ground := Ground.data }], guard := none }) (v := ?_) rfl (by kernel_rfl) (by kernel_rfl) (by kernel_rfl) (by decide) (fun _ _ _ h => h) (Or.inl ⟨by rfl, ?_⟩) (.inl (by assumption)) ?_
  rotate_left
  · intro w hSw; go_simp; try with_reducible rfl
  try simp only [Act.put, List.setIfInBounds_toArray, List.set_cons_zero, List.set_cons_succ]
  refine wpAnyG_takeM (i := 8) (oi := { dst := some 20, op := Op.load 93 (Operand.tmp 19), type := 93, pos := "request.go:342", after := #[{ on := 7, ground := Ground.data }], guard := none }) (v := ?_) (ms := [9, 10, 11, 12, 13]) rfl (by kernel_rfl) (by kernel_rfl) (by kernel_rfl) (by kernel_rfl) (by kernel_rfl) (fun _ _ _ h => h) (Or.inl ⟨by rfl, ?_⟩) (by assumption) ?_
  rotate_left
  · intro w hSw; (try dsimp only at hSw); go_simp; try with_reducible rfl
  try simp only [Act.put, List.setIfInBounds_toArray, List.set_cons_zero, List.set_cons_succ]
  refine wpAnyG_one (i := 9) (o := { dst := some 21, op := Op.call { callee := Callee.value (Operand.func 50), args := #[Operand.tmp 20, Operand.const (Value.int IntKind.i64 1)], argTypes := #[93, 3] }, type := 22, pos := "request.go:342", after := #[{ on := 8, ground := Ground.data }], guard := none }) (by kernel_rfl) rfl (fun K hK => ?_)
  go_simp
  go_at_call 50
  refine (rnumber_any w1.heap.size br (some b) 1 _ HI3.out).mono ?_
  rintro e w4 ⟨rfl, hst⟩
  rw [HKV.out]
  have HM4 := Lib.hid (hst.2.2.row HM3.out (by decide))
  have HX4 := Lib.hid (hst.2.2.row HX3.out (by decide))
  have HZ4 := Lib.hid (hst.2.2.row HZ3.out (by decide))
  have HST := Lib.hid hst
  clear hst
  have hf4 := fun j => frozen_of_row w4 gm j _ _ HM4.out
  have hm4 := fun j => cell_of_row w4 gm j _ _ _ HM4.out
  have hHeld := (show w4.cell? ⟨gx, 3, none⟩ = some (.pointer (some ⟨gm, 0, none⟩)) ∧ w4.cell? ⟨gx, 1, none⟩ = some (.pointer (some ⟨br, 0, none⟩)) from ⟨cell_of_row _ _ 3 _ _ _ HX4.out, cell_of_row _ _ 1 _ _ _ HX4.out⟩)
  refine hK.out _ _ (.inl hHeld) ?_
  clear hK K
  try simp only [Act.put, List.setIfInBounds_toArray, List.set_cons_zero, List.set_cons_succ]
  refine wpAnyG_one (i := 10) (o := { dst := some 22, op := Op.convert 22 67 (Operand.tmp 21), type := 67, pos := "request.go:342", after := #[{ on := 9, ground := Ground.data }], guard := none }) (by kernel_rfl) rfl (fun K hK => ?_)
  go_simp
  refine hK.out _ _ (.inl (by assumption)) ?_
  clear hK K
  try simp only [Act.put, List.setIfInBounds_toArray, List.set_cons_zero, List.set_cons_succ]
  refine wpAnyG_takeU (i := 11) (oi := { dst := some 23, op := Op.nilCheck (Operand.tmp 15), type := 0, pos := "request.go:342", after := #[{ on := 3, ground := Ground.data }, { on := 0, ground := Ground.phase }, { on := 1, ground := Ground.phase }, { on := 2, ground := Ground.phase }, { on := 3, ground := Ground.phase }, { on := 4, ground := Ground.phase }, { on := 5, ground := Ground.phase }, { on := 6, ground := Ground.phase }, { on := 7, ground := Ground.phase }, { on := 8, ground := Ground.phase }, { on := 9, ground := Ground.phase }, { on := 10, ground := Ground.phase }], guard := none }) (v := ?_) rfl (by kernel_rfl) (by kernel_rfl) (by kernel_rfl) (by decide) (fun _ _ _ h => h) (Or.inl ⟨by rfl, ?_⟩) (.inl (by assumption)) ?_
  rotate_left
  · intro w hSw; go_simp; try with_reducible rfl
  try simp only [Act.put, List.setIfInBounds_toArray, List.set_cons_zero, List.set_cons_succ]
  refine wpAnyG_takeU (i := 12) (oi := { dst := some 24, op := Op.fieldAddr 78 (Operand.tmp 23) 0, type := 0, pos := "request.go:342", after := #[{ on := 11, ground := Ground.data }, { on := 0, ground := Ground.phase }, { on := 1, ground := Ground.phase }, { on := 2, ground := Ground.phase }, { on := 3, ground := Ground.phase }, { on := 4, ground := Ground.phase }, { on := 5, ground := Ground.phase }, { on := 6, ground := Ground.phase }, { on := 7, ground := Ground.phase }, { on := 8, ground := Ground.phase }, { on := 9, ground := Ground.phase }, { on := 10, ground := Ground.phase }], guard := none }) (v := ?_) rfl (by kernel_rfl) (by kernel_rfl) (by kernel_rfl) (by decide) (fun _ _ _ h => h) (Or.inl ⟨by rfl, ?_⟩) (.inl (by assumption)) ?_
  rotate_left
  · intro w hSw; go_simp; try with_reducible rfl
  try simp only [Act.put, List.setIfInBounds_toArray, List.set_cons_zero, List.set_cons_succ]
  refine wpAnyG_one (i := 13) (o := { dst := none, op := Op.store 67 (Operand.tmp 24) (Operand.tmp 22), type := 0, pos := "request.go:342", after := #[{ on := 12, ground := Ground.data }, { on := 10, ground := Ground.data }, { on := 9, ground := Ground.chain }, { on := 0, ground := Ground.phase }, { on := 1, ground := Ground.phase }, { on := 2, ground := Ground.phase }, { on := 3, ground := Ground.phase }, { on := 4, ground := Ground.phase }, { on := 5, ground := Ground.phase }, { on := 6, ground := Ground.phase }, { on := 7, ground := Ground.phase }, { on := 8, ground := Ground.phase }, { on := 9, ground := Ground.phase }, { on := 10, ground := Ground.phase }], guard := none }) (by kernel_rfl) rfl (fun K hK => ?_)
  go_simp
  refine hK.out _ _ (.inr rfl) ?_
  clear hK K
  try simp only [Act.put, List.setIfInBounds_toArray, List.set_cons_zero, List.set_cons_succ]
  refine wpAnyG_done (by kernel_rfl) ?_ _
  clear hHeld
  skip
  have HM5 := Lib.hid (heap_setCell_same _ _ 0 _ _ (.int .i64 3) HM4.out)
  have HX5 := Lib.hid ((heap_setCell_other w4 ⟨gm, 0, none⟩ gx (.int .i64 3) (by dsimp only; omega)).trans HX4.out)
  have HZ5 := Lib.hid ((heap_setCell_other w4 ⟨gm, 0, none⟩ w.heap.size (.int .i64 3) (by dsimp only; have := HGL.out; omega)).trans HZ4.out)
  have HI5 := Lib.hid (HST.out.1.set HM4.out (by decide) 0 (.int .i64 3))
  have HB5 := Lib.hid ((HB3.out.trans (HST.out.2.1.mono (by have := HST.out.1.lt; have := HI3.out.lt; omega))).setCell (p := ⟨gm, 0, none⟩) (by have := HGL.out; dsimp only; omega) (.int .i64 3))
  go_upto_region 3 with fail
  clear hf4 hm4
  generalize w4.setCell ⟨gm, 0, none⟩ (.int .i64 3) = w5 at *
  clear hwk1 hwk2
  have hcx := fun j => cell_of_row w5 gx j _ _ _ HX5.out
  go_wp2_with fail
  refine (mrunRD gx gm w1.heap.size br _ false 0 0 0 0 0 0 0 0 0 0 w5 HX5.out HM5.out (by omega) HGL.out HI5.out).mono ?_
  rintro e w6 ⟨rfl, hg⟩
  have HX6 := Lib.hid (hg.k.block _ _ _ _ (by omega) HX5.out (by decide))
  have HZ6 := Lib.hid (hg.k.block _ _ _ _ (by have := HGL.out; omega) HZ5.out (by decide))
  have HM6 := Lib.hid hg.r
  have HI6 := Lib.hid hg.i
  have HB6 := Lib.hid (HB5.out.trans (hg.b.mono (by have := HB1.out.size; omega)))
  clear hg hcx
  obtain ⟨se, hse⟩ : ∃ z, rNumS (rNumS (rNumS (rNumS (some b) 1) 8) 1) 1 = z := ⟨_, rfl⟩
  rw [hse] at HI6 HOKM
  clear hse
  have HEN := Lib.hid (rend_any w1.heap.size br se w6 HI6.out)
  have hcx := fun j => cell_of_row w6 gx j _ _ _ HX6.out
  by_cases hq : se = some []
  · rw [if_pos hq] at HEN
    have HQ := Lib.hid hq
    clear hq
    go_wp2_with fail
    refine HEN.out.mono ?_
    rintro e w7 ⟨rfl, nd, rfl⟩
    have hbn := below_drewN w6 nd
    have HB7 := Lib.hid (HB6.out.trans (hbn.mono HB6.out.size))
    have HX7 := Lib.hid ((hbn.block _ (block_lt HX6.out)).trans HX6.out)
    have HM7 := Lib.hid ((hbn.block _ (block_lt HM6.out)).trans HM6.out)
    have HZ7 := Lib.hid ((hbn.block _ (block_lt HZ6.out)).trans HZ6.out)
    clear hbn hcx
    generalize hw7 : w6.drewN nd = w7 at *
    clear hw7
    have hcx := fun j => cell_of_row w7 gx j _ _ _ HX7.out
    obtain ⟨f1, f2⟩ := row_loT 11 HM7.out rfl rfl
    go_wp2_with fail
    clear f1 f2 hcx
    refine (HMM.out _).mono ?_
    rintro e w8 ⟨rfl, hbn⟩
    have HB7 := Lib.hid (HB7.out.trans (hbn.mono HB7.out.size))
    have HX7 := Lib.hid ((hbn.block _ (block_lt HX7.out)).trans HX7.out)
    have HM7 := Lib.hid ((hbn.block _ (block_lt HM7.out)).trans HM7.out)
    have HZ7 := Lib.hid ((hbn.block _ (block_lt HZ7.out)).trans HZ7.out)
    clear hbn
    cases mb
    · have HOKF : Hid (ok = false) := Lib.hid (by rw [HOKM.out]; simp)
      have th := there_rowT (n := 11) HZ7.out rfl
      have h1n : ([.int .i64 0, .int .u64 0, .int .i64 0, .int .i64 0, .int .i64 0, .int .i64 0, .int .i64 0, .int .i64 0, .int .i64 0, .int .i64 0, .int .u64 0] : List Value).length = 11 := rfl
      have h1c : ([.int .i64 0, .int .u64 0, .int .i64 0, .int .i64 0, .int .i64 0, .int .i64 0, .int .i64 0, .int .i64 0, .int .i64 0, .int .i64 0, .int .u64 0] : List Value).all (·.oneCell') = true := rfl
      go_wp2_with fail
      have hr6 := setCells_rowT (g := w.heap.size) (cs := [.int .i64 0, .int .u64 0, .int .i64 0, .int .i64 0, .int .i64 0, .int .i64 0, .int .i64 0, .int .i64 0, .int .i64 0, .int .i64 0, .int .u64 0]) HZ7.out rfl
      (try simp only [Exit.inBlock, Exit.then])
      refine bodyPost_ret (results_cellT2 rfl _ _ w.heap.size rfl (loadMl hr6 rfl)) rfl ?_
      have e0 : mo = zMl := by rw [HOFM.out, if_neg (by rw [HOKF.out]; simp)]
      obtain rfl : ev = 4 := by rw [← HEV.out]; exact if_neg (by rw [HOKF.out]; simp)
      rw [e0]
      exact ⟨rfl, Only.below (HB1.out.trans (HB7.out.mono HB1.out.size)) (Nat.le_refl _) (HB1.out.trans (HB7.out.mono HB1.out.size)).size ((Only.refl w.heap.size _).setCells 0 _)⟩
    · have HOKT : Hid (ok = true) := Lib.hid (by rw [HOKM.out, HQ.out]; rfl)
      have hcx := fun j => cell_of_row w8 gx j _ _ _ HX7.out
      obtain ⟨f1, f2⟩ := row_loT 11 HM7.out rfl rfl
      have th := there_rowT (n := 11) HZ7.out rfl
      have h1n : ([.int .i64 3, .int .u64 (rNumV (rNumS (some b) 1) 8 : Int), .int .i64 (rNumV (rNumS (rNumS (some b) 1) 8) 1 : Int), .int .i64 0, .int .i64 (rNumV (rNumS (rNumS (rNumS (some b) 1) 8) 1) 1 : Int), .int .i64 0, .int .i64 0, .int .i64 0, .int .i64 0, .int .i64 0, .int .u64 0] : List Value).length = 11 := rfl
      have h1c : ([.int .i64 3, .int .u64 (rNumV (rNumS (some b) 1) 8 : Int), .int .i64 (rNumV (rNumS (rNumS (some b) 1) 8) 1 : Int), .int .i64 0, .int .i64 (rNumV (rNumS (rNumS (rNumS (some b) 1) 8) 1) 1 : Int), .int .i64 0, .int .i64 0, .int .i64 0, .int .i64 0, .int .i64 0, .int .u64 0] : List Value).all (·.oneCell') = true := rfl
      go_wp2_with fail
      have hr6 := setCells_rowT (g := w.heap.size) (cs := [.int .i64 3, .int .u64 (rNumV (rNumS (some b) 1) 8 : Int), .int .i64 (rNumV (rNumS (rNumS (some b) 1) 8) 1 : Int), .int .i64 0, .int .i64 (rNumV (rNumS (rNumS (rNumS (some b) 1) 8) 1) 1 : Int), .int .i64 0, .int .i64 0, .int .i64 0, .int .i64 0, .int .i64 0, .int .u64 0]) HZ7.out rfl
      (try simp only [Exit.inBlock, Exit.then])
      refine bodyPost_ret (results_cellT2 rfl _ _ w.heap.size rfl (loadMl hr6 rfl)) rfl ?_
      have e0 := HOFM.out
      rw [if_pos HOKT.out] at e0
      obtain rfl : ev = 0 := by rw [← HEV.out]; exact if_pos HOKT.out
      rw [e0]
      exact ⟨rfl, Only.below (HB1.out.trans (HB7.out.mono HB1.out.size)) (Nat.le_refl _) (HB1.out.trans (HB7.out.mono HB1.out.size)).size ((Only.refl w.heap.size _).setCells 0 _)⟩
  · rw [if_neg hq] at HEN
    have HOKF : Hid (ok = false) := Lib.hid (by rw [HOKM.out, decide_eq_false hq]; rfl)
    clear hq
    go_wp2_with fail
    refine HEN.out.mono ?_
    rintro e w7 ⟨rfl, nd, rfl⟩
    have hbn := below_drewN w6 nd
    have HB7 := Lib.hid (HB6.out.trans (hbn.mono HB6.out.size))
    have HX7 := Lib.hid ((hbn.block _ (block_lt HX6.out)).trans HX6.out)
    have HM7 := Lib.hid ((hbn.block _ (block_lt HM6.out)).trans HM6.out)
    have HZ7 := Lib.hid ((hbn.block _ (block_lt HZ6.out)).trans HZ6.out)
    clear hbn hcx
    generalize hw7 : w6.drewN nd = w7 at *
    clear hw7
    have th := there_rowT (n := 11) HZ7.out rfl
    have h1n : ([.int .i64 0, .int .u64 0, .int .i64 0, .int .i64 0, .int .i64 0, .int .i64 0, .int .i64 0, .int .i64 0, .int .i64 0, .int .i64 0, .int .u64 0] : List Value).length = 11 := rfl
    have h1c : ([.int .i64 0, .int .u64 0, .int .i64 0, .int .i64 0, .int .i64 0, .int .i64 0, .int .i64 0, .int .i64 0, .int .i64 0, .int .i64 0, .int .u64 0] : List Value).all (·.oneCell') = true := rfl
    go_wp2_with fail
    have hr6 := setCells_rowT (g := w.heap.size) (cs := [.int .i64 0, .int .u64 0, .int .i64 0, .int .i64 0, .int .i64 0, .int .i64 0, .int .i64 0, .int .i64 0, .int .i64 0, .int .i64 0, .int .u64 0]) HZ7.out rfl
    (try simp only [Exit.inBlock, Exit.then])
    refine bodyPost_ret (results_cellT2 rfl _ _ w.heap.size rfl (loadMl hr6 rfl)) rfl ?_
    have e0 : mo = zMl := by rw [HOFM.out, if_neg (by rw [HOKF.out]; simp)]
    obtain rfl : ev = 4 := by rw [← HEV.out]; exact if_neg (by rw [HOKF.out]; simp)
    rw [e0]
    exact ⟨rfl, Only.below (HB1.out.trans (HB7.out.mono HB1.out.size)) (Nat.le_refl _) (HB1.out.trans (HB7.out.mono HB1.out.size)).size ((Only.refl w.heap.size _).setCells 0 _)⟩

set_option maxRecDepth 8000 in
set_option maxHeartbeats 4000000 in
theorem mailOfG (v : Value) (b : List UInt8) (hl : b.length ≤ 1073741824) (h2 : rNumV (some b) 1 = 2) (w : World) (hv : BS w v b) :
    Calls Tryz.prog 40 #[v] w fun e w' => e = .returned (.tuple #[.agg (mOf b).arr, .int .i64 (if okM b = true then 0 else 4)]) ∧ Below w.heap.size w w' := by
  have HV := Lib.hid hv
  have HB1 := Lib.hid ((Below.refl w.heap.size w).alloc (Nat.le_refl _) (.cells #[.int .i64 0, .int .u64 0, .int .i64 0, .int .i64 0, .int .i64 0, .int .i64 0, .int .i64 0, .int .i64 0, .int .i64 0, .int .i64 0, .int .u64 0] 78))
  have HZ1 := Lib.hid (new_rowW w (.cells #[.int .i64 0, .int .u64 0, .int .i64 0, .int .i64 0, .int .i64 0, .int .i64 0, .int .i64 0, .int .i64 0, .int .i64 0, .int .i64 0, .int .u64 0] 78) _ rfl)
  have HRD := Lib.hid (read_any v b hl _ (hv.below HB1.out))
  obtain ⟨mb, hmb⟩ : ∃ q, Ltr.mailB 2 (rNumV (rNumS (some b) 1) 8 : Int) (rNumV (rNumS (rNumS (some b) 1) 8) 1 : Int) (rNumV (rNumS (rNumS (rNumS (some b) 1) 8) 1) 4 : Int) 0 (rNumV (rNumS (rNumS (rNumS (rNumS (some b) 1) 8) 1) 4) 2 : Int) (rNumV (rNumS (rNumS (rNumS (rNumS (rNumS (some b) 1) 8) 1) 4) 2) 4 : Int) (wrap64 (rNumV (rNumS (rNumS (rNumS (rNumS (rNumS (rNumS (some b) 1) 8) 1) 4) 2) 4) 8 : Int)) 1 0 0 = q := ⟨_, rfl⟩
  have HMM := Lib.hid (fun W => mayMail_any 2 (rNumV (rNumS (some b) 1) 8 : Int) (rNumV (rNumS (rNumS (some b) 1) 8) 1 : Int) (rNumV (rNumS (rNumS (rNumS (some b) 1) 8) 1) 4 : Int) 0 (rNumV (rNumS (rNumS (rNumS (rNumS (some b) 1) 8) 1) 4) 2 : Int) (rNumV (rNumS (rNumS (rNumS (rNumS (rNumS (some b) 1) 8) 1) 4) 2) 4 : Int) (wrap64 (rNumV (rNumS (rNumS (rNumS (rNumS (rNumS (rNumS (some b) 1) 8) 1) 4) 2) 4) 8 : Int)) 1 0 0 (u64_rNumM _) (i64_wrapM _) W)
  rw [hmb] at HMM
  have HOKM : Hid (okM b = (decide ((rNumS (rNumS (rNumS (rNumS (rNumS (rNumS (rNumS (some b) 1) 8) 1) 4) 2) 4) 8) = some []) && mb)) := Lib.hid (by unfold okM mEnd mGet; rw [if_neg (show ¬ rNumV (some b) 1 = 3 by omega), if_pos h2, if_neg (show ¬ rNumV (some b) 1 = 3 by omega), if_pos h2]; rw [← hmb]; rfl)
  have HOFM : Hid (mOf b = if okM b = true then ⟨2, (rNumV (rNumS (some b) 1) 8 : Int), (rNumV (rNumS (rNumS (some b) 1) 8) 1 : Int), (rNumV (rNumS (rNumS (rNumS (some b) 1) 8) 1) 4 : Int), 0, (rNumV (rNumS (rNumS (rNumS (rNumS (some b) 1) 8) 1) 4) 2 : Int), (rNumV (rNumS (rNumS (rNumS (rNumS (rNumS (some b) 1) 8) 1) 4) 2) 4 : Int), (wrap64 (rNumV (rNumS (rNumS (rNumS (rNumS (rNumS (rNumS (some b) 1) 8) 1) 4) 2) 4) 8 : Int)), 1, 0, 0⟩ else zMl) := Lib.hid (by unfold mOf mGet; rw [if_neg (show ¬ rNumV (some b) 1 = 3 by omega), if_pos h2])
  have hlt1 : rNumV (some b) ((1 : Nat) : Int) < 256 := rNumV_lt _ 1
  obtain ⟨KV, hKV⟩ : ∃ z : Nat, rNumV (some b) 1 = z := ⟨_, rfl⟩
  skip
  have HKV := Lib.hid hKV
  have hlt2 : KV < 256 := by rw [← hKV]; exact hlt1
  have HWK : Hid (wrap64 (KV : Int) = 2) := Lib.hid (by rw [← hKV, h2]; unfold wrap64; omega)
  clear h2
  clear hmb hlt1 hv hKV hlt2
  generalize hok : okM b = ok at *
  generalize hmo : mOf b = mo at *
  clear hok hmo
  obtain ⟨ev, hev⟩ : ∃ z : Int, (if ok = true then 0 else 4) = z := ⟨_, rfl⟩
  rw [hev]
  have HEV := Lib.hid hev
  clear hev
  go_enter Tryz.func40, Tryz.ntmps40
  go_wp2_with fail
  generalize w.alloc (.cells #[.int .i64 0, .int .u64 0, .int .i64 0, .int .i64 0, .int .i64 0, .int .i64 0, .int .i64 0, .int .i64 0, .int .i64 0, .int .i64 0, .int .u64 0] 78) = w1 at *
  refine HRD.out.mono ?_
  rintro e w2 ⟨br, rfl, hi, hb2⟩
  have HI := Lib.hid hi
  have HB2 := Lib.hid hb2
  have HZ2 := Lib.hid ((hb2.block _ (block_lt HZ1.out)).trans HZ1.out)
  clear hi hb2
  go_upto_region 2 with fail
  have hb3 := ((Below.refl w2.heap.size w2).alloc (Nat.le_refl _) (.cells #[.int .i64 0, .int .u64 0, .int .i64 0, .int .i64 0, .int .i64 0, .int .i64 0, .int .i64 0, .int .i64 0, .int .i64 0, .int .i64 0, .int .u64 0] 78)).alloc (by simp) (.cells #[.pointer none, .pointer (some ⟨br, 0, none⟩), .bool false, .pointer (some ⟨w2.heap.size, 0, none⟩)] 146)
  have HI3 := Lib.hid (HI.out.below hb3)
  have HM3 := Lib.hid (row_allocW (new_rowW w2 (.cells #[.int .i64 0, .int .u64 0, .int .i64 0, .int .i64 0, .int .i64 0, .int .i64 0, .int .i64 0, .int .i64 0, .int .i64 0, .int .i64 0, .int .u64 0] 78) _ rfl) (.cells #[.pointer none, .pointer (some ⟨br, 0, none⟩), .bool false, .pointer (some ⟨w2.heap.size, 0, none⟩)] 146))
  have HX3 := Lib.hid (new_rowW (w2.alloc (.cells #[.int .i64 0, .int .u64 0, .int .i64 0, .int .i64 0, .int .i64 0, .int .i64 0, .int .i64 0, .int .i64 0, .int .i64 0, .int .i64 0, .int .u64 0] 78)) (.cells #[.pointer none, .pointer (some ⟨br, 0, none⟩), .bool false, .pointer (some ⟨w2.heap.size, 0, none⟩)] 146) (w2.heap.size + 1) (by simp))
  have HZ3 := Lib.hid ((hb3.block _ (block_lt HZ2.out)).trans HZ2.out)
  have HB3 := Lib.hid (HB2.out.trans (hb3.mono HB2.out.size))
  have HGL : Hid (w1.heap.size ≤ w2.heap.size) := Lib.hid HB2.out.size
  have hzl := block_lt HZ1.out
  clear hb3
  generalize ((w2.alloc (.cells #[.int .i64 0, .int .u64 0, .int .i64 0, .int .i64 0, .int .i64 0, .int .i64 0, .int .i64 0, .int .i64 0, .int .i64 0, .int .i64 0, .int .u64 0] 78)).alloc (.cells #[.pointer none, .pointer (some ⟨br, 0, none⟩), .bool false, .pointer (some ⟨w2.heap.size, 0, none⟩)] 146)) = w3 at *
  generalize hgx : w2.heap.size + 1 = gx at *
  generalize hgm : w2.heap.size = gm at *
  have hcx := fun j => cell_of_row w3 gx j _ _ _ HX3.out
  refine wp_region_G (C := fun W => W.cell? ⟨gx, 3, none⟩ = some (.pointer (some ⟨gm, 0, none⟩)) ∧ W.cell? ⟨gx, 1, none⟩ = some (.pointer (some ⟨br, 0, none⟩))) (s0 := 13) (by kernel_rfl) ?_
  have hbn := (Below.refl w3.heap.size w3).drew
  have HI3 := Lib.hid (HI3.out.below hbn)
  have HM3 := Lib.hid ((hbn.block _ (block_lt HM3.out)).trans HM3.out)
  have HX3 := Lib.hid ((hbn.block _ (block_lt HX3.out)).trans HX3.out)
  have HZ3 := Lib.hid ((hbn.block _ (block_lt HZ3.out)).trans HZ3.out)
  have HB3 := Lib.hid (HB3.out.trans (hbn.mono HB3.out.size))
  clear hbn hcx
  generalize w3.drew = wd at *
  have hHeld := (show wd.cell? ⟨gx, 3, none⟩ = some (.pointer (some ⟨gm, 0, none⟩)) ∧ wd.cell? ⟨gx, 1, none⟩ = some (.pointer (some ⟨br, 0, none⟩)) from ⟨cell_of_row _ _ 3 _ _ _ HX3.out, cell_of_row _ _ 1 _ _ _ HX3.out⟩)
  have hwk2 := HWK.out
  have hwk1 : IntKind.i64.wrap (KV : Int) = 2 := by have h9 := HWK.out; unfold wrap64 at h9; rw [IntKind.wrap_i64]; exact h9
  refine wpAnyG_takeU (i := 0) (oi := { dst := some 12, op := Op.move (Operand.tmp 4), type := 143, pos := "request.go:342", after := #[], guard := none }) (v := ?_) rfl (by kernel_rfl) (by kernel_rfl) (by kernel_rfl) (by decide) (fun _ _ _ h => h) (Or.inl ⟨by rfl, ?_⟩) (.inl (by assumption)) ?_
  rotate_left
  · intro w hSw; go_simp; try with_reducible rfl
  try simp only [Act.put, List.setIfInBounds_toArray, List.set_cons_zero, List.set_cons_succ]
  refine wpAnyG_takeU (i := 1) (oi := { dst := some 13, op := Op.nilCheck (Operand.tmp 12), type := 0, pos := "request.go:342", after := #[{ on := 0, ground := Ground.data }], guard := none }) (v := ?_) rfl (by kernel_rfl) (by kernel_rfl) (by kernel_rfl) (by decide) (fun _ _ _ h => h) (Or.inl ⟨by rfl, ?_⟩) (.inl (by assumption)) ?_
  rotate_left
  · intro w hSw; go_simp; try with_reducible rfl
  try simp only [Act.put, List.setIfInBounds_toArray, List.set_cons_zero, List.set_cons_succ]
  refine wpAnyG_takeU (i := 2) (oi := { dst := some 14, op := Op.fieldAddr 146 (Operand.tmp 13) 1, type := 0, pos := "request.go:342", after := #[{ on := 1, ground := Ground.data }], guard := none }) (v := ?_) rfl (by kernel_rfl) (by kernel_rfl) (by kernel_rfl) (by decide) (fun _ _ _ h => h) (Or.inl ⟨by rfl, ?_⟩) (.inl (by assumption)) ?_
  rotate_left
  · intro w hSw; go_simp; try with_reducible rfl
  try simp only [Act.put, List.setIfInBounds_toArray, List.set_cons_zero, List.set_cons_succ]
  refine wpAnyG_takeM (i := 3) (oi := { dst := some 15, op := Op.load 144 (Operand.tmp 14), type := 144, pos := "request.go:342", after := #[{ on := 2, ground := Ground.data }], guard := none }) (v := ?_) (ms := [11, 12, 13]) rfl (by kernel_rfl) (by kernel_rfl) (by kernel_rfl) (by kernel_rfl) (by kernel_rfl) (fun _ _ _ h => h) (Or.inl ⟨by rfl, ?_⟩) (by assumption) ?_
  rotate_left
  · intro w hSw; (try dsimp only at hSw); go_simp; try with_reducible rfl
  try simp only [Act.put, List.setIfInBounds_toArray, List.set_cons_zero, List.set_cons_succ]
  refine wpAnyG_takeU (i := 4) (oi := { dst := some 16, op := Op.move (Operand.tmp 4), type := 143, pos := "request.go:342", after := #[], guard := none }) (v := ?_) rfl (by kernel_rfl) (by kernel_rfl) (by kernel_rfl) (by decide) (fun _ _ _ h => h) (Or.inl ⟨by rfl, ?_⟩) (.inl (by assumption)) ?_
  rotate_left
  · intro w hSw; go_simp; try with_reducible rfl
  try simp only [Act.put, List.setIfInBounds_toArray, List.set_cons_zero, List.set_cons_succ]
  refine wpAnyG_takeU (i := 5) (oi := { dst := some 17, op := Op.nilCheck (Operand.tmp 16), type := 0, pos := "request.go:342", after := #[{ on := 4, ground := Ground.data }], guard := none }) (v := ?_) rfl (by kernel_rfl) (by kernel_rfl) (by kernel_rfl) (by decide) (fun _ _ _ h => h) (Or.inl ⟨by rfl, ?_⟩) (.inl (by assumption)) ?_
  rotate_left
  · intro w hSw; go_simp; try with_reducible rfl
  try simp only [Act.put, List.setIfInBounds_toArray, List.set_cons_zero, List.set_cons_succ]
  refine wpAnyG_takeU (i := 6) (oi := { dst := some 18, op := Op.fieldAddr 146 (Operand.tmp 17) 0, type := 0, pos := "request.go:342", after := #[{ on := 5, ground := Ground.data }], guard := none }) (v := ?_) rfl (by kernel_rfl) (by kernel_rfl) (by kernel_rfl) (by decide) (fun _ _ _ h => h) (Or.inl ⟨by rfl, ?_⟩) (.inl (by assumption)) ?_
  rotate_left
  · intro w hSw; go_simp; try with_reducible rfl
  try simp only [Act.put, List.setIfInBounds_toArray, List.set_cons_zero, List.set_cons_succ]
  refine wpAnyG_takeU (i := 7) (oi := { dst := some 19, op := Op.fieldAddr 97 (Operand.tmp 18) 1, type := 0, pos := "request.go:342", after := #[{ on := 6, ground := Ground.data }], guard := none }) (v := ?_) rfl (by kernel_rfl) (by kernel_rfl) (by kernel_rfl) (by decide) (fun _ _ _ h => h) (Or.inl ⟨by rfl, ?_⟩) (.inl (by assumption)) ?_
  rotate_left
  · intro w hSw; go_simp; try with_reducible rfl
  try simp only [Act.put, List.setIfInBounds_toArray, List.set_cons_zero, List.set_cons_succ]
  refine wpAnyG_takeM (i := 8) (oi := { dst := some 20, op := Op.load 93 (Operand.tmp 19), type := 93, pos := "request.go:342", after := #[{ on := 7, ground := Ground.data }], guard := none }) (v := ?_) (ms := [9, 10, 11, 12, 13]) rfl (by kernel_rfl) (by kernel_rfl) (by kernel_rfl) (by kernel_rfl) (by kernel_rfl) (fun _ _ _ h => h) (Or.inl ⟨by rfl, ?_⟩) (by assumption) ?_
  rotate_left
  · intro w hSw; (try dsimp only at hSw); go_simp; try with_reducible rfl
  try simp only [Act.put, List.setIfInBounds_toArray, List.set_cons_zero, List.set_cons_succ]
  refine wpAnyG_one (i := 9) (o := { dst := some 21, op := Op.call { callee := Callee.value (Operand.func 50), args := #[Operand.tmp 20, Operand.const (Value.int IntKind.i64 1)], argTypes := #[93, 3] }, type := 22, pos := "request.go:342", after := #[{ on := 8, ground := Ground.data }], guard := none }) (by kernel_rfl) rfl (fun K hK => ?_)
  go_simp
  go_at_call 50
  refine (rnumber_any w1.heap.size br (some b) 1 _ HI3.out).mono ?_
  rintro e w4 ⟨rfl, hst⟩
  rw [HKV.out]
  have HM4 := Lib.hid (hst.2.2.row HM3.out (by decide))
  have HX4 := Lib.hid (hst.2.2.row HX3.out (by decide))
  have HZ4 := Lib.hid (hst.2.2.row HZ3.out (by decide))
  have HST := Lib.hid hst
  clear hst
  have hf4 := fun j => frozen_of_row w4 gm j _ _ HM4.out
  have hm4 := fun j => cell_of_row w4 gm j _ _ _ HM4.out
  have hHeld := (show w4.cell? ⟨gx, 3, none⟩ = some (.pointer (some ⟨gm, 0, none⟩)) ∧ w4.cell? ⟨gx, 1, none⟩ = some (.pointer (some ⟨br, 0, none⟩)) from ⟨cell_of_row _ _ 3 _ _ _ HX4.out, cell_of_row _ _ 1 _ _ _ HX4.out⟩)
  refine hK.out _ _ (.inl hHeld) ?_
  clear hK K
  try simp only [Act.put, List.setIfInBounds_toArray, List.set_cons_zero, List.set_cons_succ]
  refine wpAnyG_one (i := 10) (o := { dst := some 22, op := Op.convert 22 67 (Operand.tmp 21), type := 67, pos := "request.go:342", after := #[{ on := 9, ground := Ground.data }], guard := none }) (by kernel_rfl) rfl (fun K hK => ?_)
  go_simp
  refine hK.out _ _ (.inl (by assumption)) ?_
  clear hK K
  try simp only [Act.put, List.setIfInBounds_toArray, List.set_cons_zero, List.set_cons_succ]
  refine wpAnyG_takeU (i := 11) (oi := { dst := some 23, op := Op.nilCheck (Operand.tmp 15), type := 0, pos := "request.go:342", after := #[{ on := 3, ground := Ground.data }, { on := 0, ground := Ground.phase }, { on := 1, ground := Ground.phase }, { on := 2, ground := Ground.phase }, { on := 3, ground := Ground.phase }, { on := 4, ground := Ground.phase }, { on := 5, ground := Ground.phase }, { on := 6, ground := Ground.phase }, { on := 7, ground := Ground.phase }, { on := 8, ground := Ground.phase }, { on := 9, ground := Ground.phase }, { on := 10, ground := Ground.phase }], guard := none }) (v := ?_) rfl (by kernel_rfl) (by kernel_rfl) (by kernel_rfl) (by decide) (fun _ _ _ h => h) (Or.inl ⟨by rfl, ?_⟩) (.inl (by assumption)) ?_
  rotate_left
  · intro w hSw; go_simp; try with_reducible rfl
  try simp only [Act.put, List.setIfInBounds_toArray, List.set_cons_zero, List.set_cons_succ]
  refine wpAnyG_takeU (i := 12) (oi := { dst := some 24, op := Op.fieldAddr 78 (Operand.tmp 23) 0, type := 0, pos := "request.go:342", after := #[{ on := 11, ground := Ground.data }, { on := 0, ground := Ground.phase }, { on := 1, ground := Ground.phase }, { on := 2, ground := Ground.phase }, { on := 3, ground := Ground.phase }, { on := 4, ground := Ground.phase }, { on := 5, ground := Ground.phase }, { on := 6, ground := Ground.phase }, { on := 7, ground := Ground.phase }, { on := 8, ground := Ground.phase }, { on := 9, ground := Ground.phase }, { on := 10, ground := Ground.phase }], guard := none }) (v := ?_) rfl (by kernel_rfl) (by kernel_rfl) (by kernel_rfl) (by decide) (fun _ _ _ h => h) (Or.inl ⟨by rfl, ?_⟩) (.inl (by assumption)) ?_
  rotate_left
  · intro w hSw; go_simp; try with_reducible rfl
  try simp only [Act.put, List.setIfInBounds_toArray, List.set_cons_zero, List.set_cons_succ]
  refine wpAnyG_one (i := 13) (o := { dst := none, op := Op.store 67 (Operand.tmp 24) (Operand.tmp 22), type := 0, pos := "request.go:342", after := #[{ on := 12, ground := Ground.data }, { on := 10, ground := Ground.data }, { on := 9, ground := Ground.chain }, { on := 0, ground := Ground.phase }, { on := 1, ground := Ground.phase }, { on := 2, ground := Ground.phase }, { on := 3, ground := Ground.phase }, { on := 4, ground := Ground.phase }, { on := 5, ground := Ground.phase }, { on := 6, ground := Ground.phase }, { on := 7, ground := Ground.phase }, { on := 8, ground := Ground.phase }, { on := 9, ground := Ground.phase }, { on := 10, ground := Ground.phase }], guard := none }) (by kernel_rfl) rfl (fun K hK => ?_)
  go_simp
  refine hK.out _ _ (.inr rfl) ?_
  clear hK K
  try simp only [Act.put, List.setIfInBounds_toArray, List.set_cons_zero, List.set_cons_succ]
  refine wpAnyG_done (by kernel_rfl) ?_ _
  clear hHeld
  skip
  have HM5 := Lib.hid (heap_setCell_same _ _ 0 _ _ (.int .i64 2) HM4.out)
  have HX5 := Lib.hid ((heap_setCell_other w4 ⟨gm, 0, none⟩ gx (.int .i64 2) (by dsimp only; omega)).trans HX4.out)
  have HZ5 := Lib.hid ((heap_setCell_other w4 ⟨gm, 0, none⟩ w.heap.size (.int .i64 2) (by dsimp only; have := HGL.out; omega)).trans HZ4.out)
  have HI5 := Lib.hid (HST.out.1.set HM4.out (by decide) 0 (.int .i64 2))
  have HB5 := Lib.hid ((HB3.out.trans (HST.out.2.1.mono (by have := HST.out.1.lt; have := HI3.out.lt; omega))).setCell (p := ⟨gm, 0, none⟩) (by have := HGL.out; dsimp only; omega) (.int .i64 2))
  go_upto_region 3 with fail
  clear hf4 hm4
  generalize w4.setCell ⟨gm, 0, none⟩ (.int .i64 2) = w5 at *
  clear hwk1 hwk2
  have hcx := fun j => cell_of_row w5 gx j _ _ _ HX5.out
  go_wp2_with fail
  refine (mrunRG gx gm w1.heap.size br _ false 0 0 0 0 0 0 0 0 0 0 w5 HX5.out HM5.out (by omega) HGL.out HI5.out).mono ?_
  rintro e w6 ⟨rfl, hg⟩
  have HX6 := Lib.hid (hg.k.block _ _ _ _ (by omega) HX5.out (by decide))
  have HZ6 := Lib.hid (hg.k.block _ _ _ _ (by have := HGL.out; omega) HZ5.out (by decide))
  have HM6 := Lib.hid hg.r
  have HI6 := Lib.hid hg.i
  have HB6 := Lib.hid (HB5.out.trans (hg.b.mono (by have := HB1.out.size; omega)))
  clear hg hcx
  obtain ⟨se, hse⟩ : ∃ z, (rNumS (rNumS (rNumS (rNumS (rNumS (rNumS (rNumS (some b) 1) 8) 1) 4) 2) 4) 8) = z := ⟨_, rfl⟩
  rw [hse] at HI6 HOKM
  clear hse
  have HEN := Lib.hid (rend_any w1.heap.size br se w6 HI6.out)
  have hcx := fun j => cell_of_row w6 gx j _ _ _ HX6.out
  by_cases hq : se = some []
  · rw [if_pos hq] at HEN
    have HQ := Lib.hid hq
    clear hq
    go_wp2_with fail
    refine HEN.out.mono ?_
    rintro e w7 ⟨rfl, nd, rfl⟩
    have hbn := below_drewN w6 nd
    have HB7 := Lib.hid (HB6.out.trans (hbn.mono HB6.out.size))
    have HX7 := Lib.hid ((hbn.block _ (block_lt HX6.out)).trans HX6.out)
    have HM7 := Lib.hid ((hbn.block _ (block_lt HM6.out)).trans HM6.out)
    have HZ7 := Lib.hid ((hbn.block _ (block_lt HZ6.out)).trans HZ6.out)
    clear hbn hcx
    generalize hw7 : w6.drewN nd = w7 at *
    clear hw7
    have hcx := fun j => cell_of_row w7 gx j _ _ _ HX7.out
    obtain ⟨f1, f2⟩ := row_loT 11 HM7.out rfl rfl
    go_wp2_with fail
    clear f1 f2 hcx
    refine (HMM.out _).mono ?_
    rintro e w8 ⟨rfl, hbn⟩
    have HB7 := Lib.hid (HB7.out.trans (hbn.mono HB7.out.size))
    have HX7 := Lib.hid ((hbn.block _ (block_lt HX7.out)).trans HX7.out)
    have HM7 := Lib.hid ((hbn.block _ (block_lt HM7.out)).trans HM7.out)
    have HZ7 := Lib.hid ((hbn.block _ (block_lt HZ7.out)).trans HZ7.out)
    clear hbn
    cases mb
    · have HOKF : Hid (ok = false) := Lib.hid (by rw [HOKM.out]; simp)
      have th := there_rowT (n := 11) HZ7.out rfl
      have h1n : ([.int .i64 0, .int .u64 0, .int .i64 0, .int .i64 0, .int .i64 0, .int .i64 0, .int .i64 0, .int .i64 0, .int .i64 0, .int .i64 0, .int .u64 0] : List Value).length = 11 := rfl
      have h1c : ([.int .i64 0, .int .u64 0, .int .i64 0, .int .i64 0, .int .i64 0, .int .i64 0, .int .i64 0, .int .i64 0, .int .i64 0, .int .i64 0, .int .u64 0] : List Value).all (·.oneCell') = true := rfl
      go_wp2_with fail
      have hr6 := setCells_rowT (g := w.heap.size) (cs := [.int .i64 0, .int .u64 0, .int .i64 0, .int .i64 0, .int .i64 0, .int .i64 0, .int .i64 0, .int .i64 0, .int .i64 0, .int .i64 0, .int .u64 0]) HZ7.out rfl
      (try simp only [Exit.inBlock, Exit.then])
      refine bodyPost_ret (results_cellT2 rfl _ _ w.heap.size rfl (loadMl hr6 rfl)) rfl ?_
      have e0 : mo = zMl := by rw [HOFM.out, if_neg (by rw [HOKF.out]; simp)]
      obtain rfl : ev = 4 := by rw [← HEV.out]; exact if_neg (by rw [HOKF.out]; simp)
      rw [e0]
      exact ⟨rfl, Only.below (HB1.out.trans (HB7.out.mono HB1.out.size)) (Nat.le_refl _) (HB1.out.trans (HB7.out.mono HB1.out.size)).size ((Only.refl w.heap.size _).setCells 0 _)⟩
    · have HOKT : Hid (ok = true) := Lib.hid (by rw [HOKM.out, HQ.out]; rfl)
      have hcx := fun j => cell_of_row w8 gx j _ _ _ HX7.out
      obtain ⟨f1, f2⟩ := row_loT 11 HM7.out rfl rfl
      have th := there_rowT (n := 11) HZ7.out rfl
      have h1n : ([.int .i64 2, .int .u64 (rNumV (rNumS (some b) 1) 8 : Int), .int .i64 (rNumV (rNumS (rNumS (some b) 1) 8) 1 : Int), .int .i64 (rNumV (rNumS (rNumS (rNumS (some b) 1) 8) 1) 4 : Int), .int .i64 0, .int .i64 (rNumV (rNumS (rNumS (rNumS (rNumS (some b) 1) 8) 1) 4) 2 : Int), .int .i64 (rNumV (rNumS (rNumS (rNumS (rNumS (rNumS (some b) 1) 8) 1) 4) 2) 4 : Int), .int .i64 (wrap64 (rNumV (rNumS (rNumS (rNumS (rNumS (rNumS (rNumS (some b) 1) 8) 1) 4) 2) 4) 8 : Int)), .int .i64 1, .int .i64 0, .int .u64 0] : List Value).length = 11 := rfl
      have h1c : ([.int .i64 2, .int .u64 (rNumV (rNumS (some b) 1) 8 : Int), .int .i64 (rNumV (rNumS (rNumS (some b) 1) 8) 1 : Int), .int .i64 (rNumV (rNumS (rNumS (rNumS (some b) 1) 8) 1) 4 : Int), .int .i64 0, .int .i64 (rNumV (rNumS (rNumS (rNumS (rNumS (some b) 1) 8) 1) 4) 2 : Int), .int .i64 (rNumV (rNumS (rNumS (rNumS (rNumS (rNumS (some b) 1) 8) 1) 4) 2) 4 : Int), .int .i64 (wrap64 (rNumV (rNumS (rNumS (rNumS (rNumS (rNumS (rNumS (some b) 1) 8) 1) 4) 2) 4) 8 : Int)), .int .i64 1, .int .i64 0, .int .u64 0] : List Value).all (·.oneCell') = true := rfl
      go_wp2_with fail
      have hr6 := setCells_rowT (g := w.heap.size) (cs := [.int .i64 2, .int .u64 (rNumV (rNumS (some b) 1) 8 : Int), .int .i64 (rNumV (rNumS (rNumS (some b) 1) 8) 1 : Int), .int .i64 (rNumV (rNumS (rNumS (rNumS (some b) 1) 8) 1) 4 : Int), .int .i64 0, .int .i64 (rNumV (rNumS (rNumS (rNumS (rNumS (some b) 1) 8) 1) 4) 2 : Int), .int .i64 (rNumV (rNumS (rNumS (rNumS (rNumS (rNumS (some b) 1) 8) 1) 4) 2) 4 : Int), .int .i64 (wrap64 (rNumV (rNumS (rNumS (rNumS (rNumS (rNumS (rNumS (some b) 1) 8) 1) 4) 2) 4) 8 : Int)), .int .i64 1, .int .i64 0, .int .u64 0]) HZ7.out rfl
      (try simp only [Exit.inBlock, Exit.then])
      refine bodyPost_ret (results_cellT2 rfl _ _ w.heap.size rfl (loadMl hr6 rfl)) rfl ?_
      have e0 := HOFM.out
      rw [if_pos HOKT.out] at e0
      obtain rfl : ev = 0 := by rw [← HEV.out]; exact if_pos HOKT.out
      rw [e0]
      exact ⟨rfl, Only.below (HB1.out.trans (HB7.out.mono HB1.out.size)) (Nat.le_refl _) (HB1.out.trans (HB7.out.mono HB1.out.size)).size ((Only.refl w.heap.size _).setCells 0 _)⟩
  · rw [if_neg hq] at HEN
    have HOKF : Hid (ok = false) := Lib.hid (by rw [HOKM.out, decide_eq_false hq]; rfl)
    clear hq
    go_wp2_with fail
    refine HEN.out.mono ?_
    rintro e w7 ⟨rfl, nd, rfl⟩
    have hbn := below_drewN w6 nd
    have HB7 := Lib.hid (HB6.out.trans (hbn.mono HB6.out.size))
    have HX7 := Lib.hid ((hbn.block _ (block_lt HX6.out)).trans HX6.out)
    have HM7 := Lib.hid ((hbn.block _ (block_lt HM6.out)).trans HM6.out)
    have HZ7 := Lib.hid ((hbn.block _ (block_lt HZ6.out)).trans HZ6.out)
    clear hbn hcx
    generalize hw7 : w6.drewN nd = w7 at *
    clear hw7
    have th := there_rowT (n := 11) HZ7.out rfl
    have h1n : ([.int .i64 0, .int .u64 0, .int .i64 0, .int .i64 0, .int .i64 0, .int .i64 0, .int .i64 0, .int .i64 0, .int .i64 0, .int .i64 0, .int .u64 0] : List Value).length = 11 := rfl
    have h1c : ([.int .i64 0, .int .u64 0, .int .i64 0, .int .i64 0, .int .i64 0, .int .i64 0, .int .i64 0, .int .i64 0, .int .i64 0, .int .i64 0, .int .u64 0] : List Value).all (·.oneCell') = true := rfl
    go_wp2_with fail
    have hr6 := setCells_rowT (g := w.heap.size) (cs := [.int .i64 0, .int .u64 0, .int .i64 0, .int .i64 0, .int .i64 0, .int .i64 0, .int .i64 0, .int .i64 0, .int .i64 0, .int .i64 0, .int .u64 0]) HZ7.out rfl
    (try simp only [Exit.inBlock, Exit.then])
    refine bodyPost_ret (results_cellT2 rfl _ _ w.heap.size rfl (loadMl hr6 rfl)) rfl ?_
    have e0 : mo = zMl := by rw [HOFM.out, if_neg (by rw [HOKF.out]; simp)]
    obtain rfl : ev = 4 := by rw [← HEV.out]; exact if_neg (by rw [HOKF.out]; simp)
    rw [e0]
    exact ⟨rfl, Only.below (HB1.out.trans (HB7.out.mono HB1.out.size)) (Nat.le_refl _) (HB1.out.trans (HB7.out.mono HB1.out.size)).size ((Only.refl w.heap.size _).setCells 0 _)⟩

set_option maxRecDepth 8000 in
set_option maxHeartbeats 4000000 in
theorem mailOfO (v : Value) (b : List UInt8) (hl : b.length ≤ 1073741824) (h3 : ¬ rNumV (some b) 1 = 3) (h2 : ¬ rNumV (some b) 1 = 2) (w : World) (hv : BS w v b) :
    Calls Tryz.prog 40 #[v] w fun e w' => e = .returned (.tuple #[.agg (mOf b).arr, .int .i64 (if okM b = true then 0 else 4)]) ∧ Below w.heap.size w w' := by
  have HV := Lib.hid hv
  have HB1 := Lib.hid ((Below.refl w.heap.size w).alloc (Nat.le_refl _) (.cells #[.int .i64 0, .int .u64 0, .int .i64 0, .int .i64 0, .int .i64 0, .int .i64 0, .int .i64 0, .int .i64 0, .int .i64 0, .int .i64 0, .int .u64 0] 78))
  have HZ1 := Lib.hid (new_rowW w (.cells #[.int .i64 0, .int .u64 0, .int .i64 0, .int .i64 0, .int .i64 0, .int .i64 0, .int .i64 0, .int .i64 0, .int .i64 0, .int .i64 0, .int .u64 0] 78) _ rfl)
  have HRD := Lib.hid (read_any v b hl _ (hv.below HB1.out))
  obtain ⟨mb, hmb⟩ : ∃ q, Ltr.mailB (rNumV (some b) 1 : Int) (rNumV (rNumS (some b) 1) 8 : Int) (rNumV (rNumS (rNumS (some b) 1) 8) 1 : Int) (rNumV (rNumS (rNumS (rNumS (some b) 1) 8) 1) 4 : Int) 0 0 0 0 0 0 0 = q := ⟨_, rfl⟩
  have HMM := Lib.hid (fun W => mayMail_any (rNumV (some b) 1 : Int) (rNumV (rNumS (some b) 1) 8 : Int) (rNumV (rNumS (rNumS (some b) 1) 8) 1 : Int) (rNumV (rNumS (rNumS (rNumS (some b) 1) 8) 1) 4 : Int) 0 0 0 0 0 0 0 (u64_rNumM _) (by constructor <;> decide) W)
  rw [hmb] at HMM
  have HOKM : Hid (okM b = (decide ((rNumS (rNumS (rNumS (rNumS (some b) 1) 8) 1) 4) = some []) && mb)) := Lib.hid (by unfold okM mEnd mGet; rw [if_neg h3, if_neg h2, if_neg h3, if_neg h2]; rw [← hmb]; rfl)
  have HOFM : Hid (mOf b = if okM b = true then ⟨(rNumV (some b) 1 : Int), (rNumV (rNumS (some b) 1) 8 : Int), (rNumV (rNumS (rNumS (some b) 1) 8) 1 : Int), (rNumV (rNumS (rNumS (rNumS (some b) 1) 8) 1) 4 : Int), 0, 0, 0, 0, 0, 0, 0⟩ else zMl) := Lib.hid (by unfold mOf mGet; rw [if_neg h3, if_neg h2])
  have hlt1 : rNumV (some b) ((1 : Nat) : Int) < 256 := rNumV_lt _ 1
  obtain ⟨KV, hKV⟩ : ∃ z : Nat, rNumV (some b) 1 = z := ⟨_, rfl⟩
  rw [hKV] at HOFM HMM
  have HKV := Lib.hid hKV
  have hlt2 : KV < 256 := by rw [← hKV]; exact hlt1
  have HWK : Hid (wrap64 (KV : Int) = (KV : Int)) := Lib.hid (by unfold wrap64; omega)
  have HN3 := Lib.hid (show ¬ KV = 3 by rw [← hKV]; exact h3); have HN2 := Lib.hid (show ¬ KV = 2 by rw [← hKV]; exact h2); clear h3 h2
  clear hmb hlt1 hv hKV hlt2
  generalize hok : okM b = ok at *
  generalize hmo : mOf b = mo at *
  clear hok hmo
  obtain ⟨ev, hev⟩ : ∃ z : Int, (if ok = true then 0 else 4) = z := ⟨_, rfl⟩
  rw [hev]
  have HEV := Lib.hid hev
  clear hev
  go_enter Tryz.func40, Tryz.ntmps40
  go_wp2_with fail
  generalize w.alloc (.cells #[.int .i64 0, .int .u64 0, .int .i64 0, .int .i64 0, .int .i64 0, .int .i64 0, .int .i64 0, .int .i64 0, .int .i64 0, .int .i64 0, .int .u64 0] 78) = w1 at *
  refine HRD.out.mono ?_
  rintro e w2 ⟨br, rfl, hi, hb2⟩
  have HI := Lib.hid hi
  have HB2 := Lib.hid hb2
  have HZ2 := Lib.hid ((hb2.block _ (block_lt HZ1.out)).trans HZ1.out)
  clear hi hb2
  go_upto_region 2 with fail
  have hb3 := ((Below.refl w2.heap.size w2).alloc (Nat.le_refl _) (.cells #[.int .i64 0, .int .u64 0, .int .i64 0, .int .i64 0, .int .i64 0, .int .i64 0, .int .i64 0, .int .i64 0, .int .i64 0, .int .i64 0, .int .u64 0] 78)).alloc (by simp) (.cells #[.pointer none, .pointer (some ⟨br, 0, none⟩), .bool false, .pointer (some ⟨w2.heap.size, 0, none⟩)] 146)
  have HI3 := Lib.hid (HI.out.below hb3)
  have HM3 := Lib.hid (row_allocW (new_rowW w2 (.cells #[.int .i64 0, .int .u64 0, .int .i64 0, .int .i64 0, .int .i64 0, .int .i64 0, .int .i64 0, .int .i64 0, .int .i64 0, .int .i64 0, .int .u64 0] 78) _ rfl) (.cells #[.pointer none, .pointer (some ⟨br, 0, none⟩), .bool false, .pointer (some ⟨w2.heap.size, 0, none⟩)] 146))
  have HX3 := Lib.hid (new_rowW (w2.alloc (.cells #[.int .i64 0, .int .u64 0, .int .i64 0, .int .i64 0, .int .i64 0, .int .i64 0, .int .i64 0, .int .i64 0, .int .i64 0, .int .i64 0, .int .u64 0] 78)) (.cells #[.pointer none, .pointer (some ⟨br, 0, none⟩), .bool false, .pointer (some ⟨w2.heap.size, 0, none⟩)] 146) (w2.heap.size + 1) (by simp))
  have HZ3 := Lib.hid ((hb3.block _ (block_lt HZ2.out)).trans HZ2.out)
  have HB3 := Lib.hid (HB2.out.trans (hb3.mono HB2.out.size))
  have HGL : Hid (w1.heap.size ≤ w2.heap.size) := Lib.hid HB2.out.size
  have hzl := block_lt HZ1.out
  clear hb3
  generalize ((w2.alloc (.cells #[.int .i64 0, .int .u64 0, .int .i64 0, .int .i64 0, .int .i64 0, .int .i64 0, .int .i64 0, .int .i64 0, .int .i64 0, .int .i64 0, .int .u64 0] 78)).alloc (.cells #[.pointer none, .pointer (some ⟨br, 0, none⟩), .bool false, .pointer (some ⟨w2.heap.size, 0, none⟩)] 146)) = w3 at *
  generalize hgx : w2.heap.size + 1 = gx at *
  generalize hgm : w2.heap.size = gm at *
  have hcx := fun j => cell_of_row w3 gx j _ _ _ HX3.out
  refine wp_region_G (C := fun W => W.cell? ⟨gx, 3, none⟩ = some (.pointer (some ⟨gm, 0, none⟩)) ∧ W.cell? ⟨gx, 1, none⟩ = some (.pointer (some ⟨br, 0, none⟩))) (s0 := 13) (by kernel_rfl) ?_
  have hbn := (Below.refl w3.heap.size w3).drew
  have HI3 := Lib.hid (HI3.out.below hbn)
  have HM3 := Lib.hid ((hbn.block _ (block_lt HM3.out)).trans HM3.out)
  have HX3 := Lib.hid ((hbn.block _ (block_lt HX3.out)).trans HX3.out)
  have HZ3 := Lib.hid ((hbn.block _ (block_lt HZ3.out)).trans HZ3.out)
  have HB3 := Lib.hid (HB3.out.trans (hbn.mono HB3.out.size))
  clear hbn hcx
  generalize w3.drew = wd at *
  have hHeld := (show wd.cell? ⟨gx, 3, none⟩ = some (.pointer (some ⟨gm, 0, none⟩)) ∧ wd.cell? ⟨gx, 1, none⟩ = some (.pointer (some ⟨br, 0, none⟩)) from ⟨cell_of_row _ _ 3 _ _ _ HX3.out, cell_of_row _ _ 1 _ _ _ HX3.out⟩)
  have hwk2 := HWK.out
  have hwk1 : IntKind.i64.wrap (KV : Int) = (KV : Int) := by have h9 := HWK.out; unfold wrap64 at h9; rw [IntKind.wrap_i64]; exact h9
  refine wpAnyG_takeU (i := 0) (oi := { dst := some 12, op := Op.move (Operand.tmp 4), type := 143, pos := "request.go:342", after := #[], guard := none }) (v := ?_) rfl (by kernel_rfl) (by kernel_rfl) (by kernel_rfl) (by decide) (fun _ _ _ h => h) (Or.inl ⟨by rfl, ?_⟩) (.inl (by assumption)) ?_
  rotate_left
  · intro w hSw; go_simp; try with_reducible rfl
  try simp only [Act.put, List.setIfInBounds_toArray, List.set_cons_zero, List.set_cons_succ]
  refine wpAnyG_takeU (i := 1) (oi := { dst := some 13, op := Op.nilCheck (Operand.tmp 12), type := 0, pos := "request.go:342", after := #[{ on := 0, ground := Ground.data }], guard := none }) (v := ?_) rfl (by kernel_rfl) (by kernel_rfl) (by kernel_rfl) (by decide) (fun _ _ _ h => h) (Or.inl ⟨by rfl, ?_⟩) (.inl (by assumption)) ?_
  rotate_left
  · intro w hSw; go_simp; try with_reducible rfl
  try simp only [Act.put, List.setIfInBounds_toArray, List.set_cons_zero, List.set_cons_succ]
  refine wpAnyG_takeU (i := 2) (oi := { dst := some 14, op := Op.fieldAddr 146 (Operand.tmp 13) 1, type := 0, pos := "request.go:342", after := #[{ on := 1, ground := Ground.data }], guard := none }) (v := ?_) rfl (by kernel_rfl) (by kernel_rfl) (by kernel_rfl) (by decide) (fun _ _ _ h => h) (Or.inl ⟨by rfl, ?_⟩) (.inl (by assumption)) ?_
  rotate_left
  · intro w hSw; go_simp; try with_reducible rfl
  try simp only [Act.put, List.setIfInBounds_toArray, List.set_cons_zero, List.set_cons_succ]
  refine wpAnyG_takeM (i := 3) (oi := { dst := some 15, op := Op.load 144 (Operand.tmp 14), type := 144, pos := "request.go:342", after := #[{ on := 2, ground := Ground.data }], guard := none }) (v := ?_) (ms := [11, 12, 13]) rfl (by kernel_rfl) (by kernel_rfl) (by kernel_rfl) (by kernel_rfl) (by kernel_rfl) (fun _ _ _ h => h) (Or.inl ⟨by rfl, ?_⟩) (by assumption) ?_
  rotate_left
  · intro w hSw; (try dsimp only at hSw); go_simp; try with_reducible rfl
  try simp only [Act.put, List.setIfInBounds_toArray, List.set_cons_zero, List.set_cons_succ]
  refine wpAnyG_takeU (i := 4) (oi := { dst := some 16, op := Op.move (Operand.tmp 4), type := 143, pos := "request.go:342", after := #[], guard := none }) (v := ?_) rfl (by kernel_rfl) (by kernel_rfl) (by kernel_rfl) (by decide) (fun _ _ _ h => h) (Or.inl ⟨by rfl, ?_⟩) (.inl (by assumption)) ?_
  rotate_left
  · intro w hSw; go_simp; try with_reducible rfl
  try simp only [Act.put, List.setIfInBounds_toArray, List.set_cons_zero, List.set_cons_succ]
  refine wpAnyG_takeU (i := 5) (oi := { dst := some 17, op := Op.nilCheck (Operand.tmp 16), type := 0, pos := "request.go:342", after := #[{ on := 4, ground := Ground.data }], guard := none }) (v := ?_) rfl (by kernel_rfl) (by kernel_rfl) (by kernel_rfl) (by decide) (fun _ _ _ h => h) (Or.inl ⟨by rfl, ?_⟩) (.inl (by assumption)) ?_
  rotate_left
  · intro w hSw; go_simp; try with_reducible rfl
  try simp only [Act.put, List.setIfInBounds_toArray, List.set_cons_zero, List.set_cons_succ]
  refine wpAnyG_takeU (i := 6) (oi := { dst := some 18, op := Op.fieldAddr 146 (Operand.tmp 17) 0, type := 0, pos := "request.go:342", after := #[{ on := 5, ground := Ground.data }], guard := none }) (v := ?_) rfl (by kernel_rfl) (by kernel_rfl) (by kernel_rfl) (by decide) (fun _ _ _ h => h) (Or.inl ⟨by rfl, ?_⟩) (.inl (by assumption)) ?_
  rotate_left
  · intro w hSw; go_simp; try with_reducible rfl
  try simp only [Act.put, List.setIfInBounds_toArray, List.set_cons_zero, List.set_cons_succ]
  refine wpAnyG_takeU (i := 7) (oi := { dst := some 19, op := Op.fieldAddr 97 (Operand.tmp 18) 1, type := 0, pos := "request.go:342", after := #[{ on := 6, ground := Ground.data }], guard := none }) (v := ?_) rfl (by kernel_rfl) (by kernel_rfl) (by kernel_rfl) (by decide) (fun _ _ _ h => h) (Or.inl ⟨by rfl, ?_⟩) (.inl (by assumption)) ?_
  rotate_left
  · intro w hSw; go_simp; try with_reducible rfl
  try simp only [Act.put, List.setIfInBounds_toArray, List.set_cons_zero, List.set_cons_succ]
  refine wpAnyG_takeM (i := 8) (oi := { dst := some 20, op := Op.load 93 (Operand.tmp 19), type := 93, pos := "request.go:342", after := #[{ on := 7, ground := Ground.data }], guard := none }) (v := ?_) (ms := [9, 10, 11, 12, 13]) rfl (by kernel_rfl) (by kernel_rfl) (by kernel_rfl) (by kernel_rfl) (by kernel_rfl) (fun _ _ _ h => h) (Or.inl ⟨by rfl, ?_⟩) (by assumption) ?_
  rotate_left
  · intro w hSw; (try dsimp only at hSw); go_simp; try with_reducible rfl
  try simp only [Act.put, List.setIfInBounds_toArray, List.set_cons_zero, List.set_cons_succ]
  refine wpAnyG_one (i := 9) (o := { dst := some 21, op := Op.call { callee := Callee.value (Operand.func 50), args := #[Operand.tmp 20, Operand.const (Value.int IntKind.i64 1)], argTypes := #[93, 3] }, type := 22, pos := "request.go:342", after := #[{ on := 8, ground := Ground.data }], guard := none }) (by kernel_rfl) rfl (fun K hK => ?_)
  go_simp
  go_at_call 50
  refine (rnumber_any w1.heap.size br (some b) 1 _ HI3.out).mono ?_
  rintro e w4 ⟨rfl, hst⟩
  rw [HKV.out]
  have HM4 := Lib.hid (hst.2.2.row HM3.out (by decide))
  have HX4 := Lib.hid (hst.2.2.row HX3.out (by decide))
  have HZ4 := Lib.hid (hst.2.2.row HZ3.out (by decide))
  have HST := Lib.hid hst
  clear hst
  have hf4 := fun j => frozen_of_row w4 gm j _ _ HM4.out
  have hm4 := fun j => cell_of_row w4 gm j _ _ _ HM4.out
  have hHeld := (show w4.cell? ⟨gx, 3, none⟩ = some (.pointer (some ⟨gm, 0, none⟩)) ∧ w4.cell? ⟨gx, 1, none⟩ = some (.pointer (some ⟨br, 0, none⟩)) from ⟨cell_of_row _ _ 3 _ _ _ HX4.out, cell_of_row _ _ 1 _ _ _ HX4.out⟩)
  refine hK.out _ _ (.inl hHeld) ?_
  clear hK K
  try simp only [Act.put, List.setIfInBounds_toArray, List.set_cons_zero, List.set_cons_succ]
  refine wpAnyG_one (i := 10) (o := { dst := some 22, op := Op.convert 22 67 (Operand.tmp 21), type := 67, pos := "request.go:342", after := #[{ on := 9, ground := Ground.data }], guard := none }) (by kernel_rfl) rfl (fun K hK => ?_)
  go_simp
  refine hK.out _ _ (.inl (by assumption)) ?_
  clear hK K
  try simp only [Act.put, List.setIfInBounds_toArray, List.set_cons_zero, List.set_cons_succ]
  refine wpAnyG_takeU (i := 11) (oi := { dst := some 23, op := Op.nilCheck (Operand.tmp 15), type := 0, pos := "request.go:342", after := #[{ on := 3, ground := Ground.data }, { on := 0, ground := Ground.phase }, { on := 1, ground := Ground.phase }, { on := 2, ground := Ground.phase }, { on := 3, ground := Ground.phase }, { on := 4, ground := Ground.phase }, { on := 5, ground := Ground.phase }, { on := 6, ground := Ground.phase }, { on := 7, ground := Ground.phase }, { on := 8, ground := Ground.phase }, { on := 9, ground := Ground.phase }, { on := 10, ground := Ground.phase }], guard := none }) (v := ?_) rfl (by kernel_rfl) (by kernel_rfl) (by kernel_rfl) (by decide) (fun _ _ _ h => h) (Or.inl ⟨by rfl, ?_⟩) (.inl (by assumption)) ?_
  rotate_left
  · intro w hSw; go_simp; try with_reducible rfl
  try simp only [Act.put, List.setIfInBounds_toArray, List.set_cons_zero, List.set_cons_succ]
  refine wpAnyG_takeU (i := 12) (oi := { dst := some 24, op := Op.fieldAddr 78 (Operand.tmp 23) 0, type := 0, pos := "request.go:342", after := #[{ on := 11, ground := Ground.data }, { on := 0, ground := Ground.phase }, { on := 1, ground := Ground.phase }, { on := 2, ground := Ground.phase }, { on := 3, ground := Ground.phase }, { on := 4, ground := Ground.phase }, { on := 5, ground := Ground.phase }, { on := 6, ground := Ground.phase }, { on := 7, ground := Ground.phase }, { on := 8, ground := Ground.phase }, { on := 9, ground := Ground.phase }, { on := 10, ground := Ground.phase }], guard := none }) (v := ?_) rfl (by kernel_rfl) (by kernel_rfl) (by kernel_rfl) (by decide) (fun _ _ _ h => h) (Or.inl ⟨by rfl, ?_⟩) (.inl (by assumption)) ?_
  rotate_left
  · intro w hSw; go_simp; try with_reducible rfl
  try simp only [Act.put, List.setIfInBounds_toArray, List.set_cons_zero, List.set_cons_succ]
  refine wpAnyG_one (i := 13) (o := { dst := none, op := Op.store 67 (Operand.tmp 24) (Operand.tmp 22), type := 0, pos := "request.go:342", after := #[{ on := 12, ground := Ground.data }, { on := 10, ground := Ground.data }, { on := 9, ground := Ground.chain }, { on := 0, ground := Ground.phase }, { on := 1, ground := Ground.phase }, { on := 2, ground := Ground.phase }, { on := 3, ground := Ground.phase }, { on := 4, ground := Ground.phase }, { on := 5, ground := Ground.phase }, { on := 6, ground := Ground.phase }, { on := 7, ground := Ground.phase }, { on := 8, ground := Ground.phase }, { on := 9, ground := Ground.phase }, { on := 10, ground := Ground.phase }], guard := none }) (by kernel_rfl) rfl (fun K hK => ?_)
  go_simp
  refine hK.out _ _ (.inr rfl) ?_
  clear hK K
  try simp only [Act.put, List.setIfInBounds_toArray, List.set_cons_zero, List.set_cons_succ]
  refine wpAnyG_done (by kernel_rfl) ?_ _
  clear hHeld
  skip
  have HM5 := Lib.hid (heap_setCell_same _ _ 0 _ _ (.int .i64 (KV : Int)) HM4.out)
  have HX5 := Lib.hid ((heap_setCell_other w4 ⟨gm, 0, none⟩ gx (.int .i64 (KV : Int)) (by dsimp only; omega)).trans HX4.out)
  have HZ5 := Lib.hid ((heap_setCell_other w4 ⟨gm, 0, none⟩ w.heap.size (.int .i64 (KV : Int)) (by dsimp only; have := HGL.out; omega)).trans HZ4.out)
  have HI5 := Lib.hid (HST.out.1.set HM4.out (by decide) 0 (.int .i64 (KV : Int)))
  have HB5 := Lib.hid ((HB3.out.trans (HST.out.2.1.mono (by have := HST.out.1.lt; have := HI3.out.lt; omega))).setCell (p := ⟨gm, 0, none⟩) (by have := HGL.out; dsimp only; omega) (.int .i64 (KV : Int)))
  go_upto_region 3 with fail
  clear hf4 hm4
  generalize w4.setCell ⟨gm, 0, none⟩ (.int .i64 (KV : Int)) = w5 at *
  clear hwk1 hwk2
  have hcx := fun j => cell_of_row w5 gx j _ _ _ HX5.out
  go_wp2_with fail
  refine (mrunRO gx gm w1.heap.size br _ false (KV : Int) 0 0 0 0 0 0 0 0 0 0 (by have := HN3.out; omega) (by have := HN2.out; omega) w5 HX5.out HM5.out (by omega) HGL.out HI5.out).mono ?_
  rintro e w6 ⟨rfl, hg⟩
  have HX6 := Lib.hid (hg.k.block _ _ _ _ (by omega) HX5.out (by decide))
  have HZ6 := Lib.hid (hg.k.block _ _ _ _ (by have := HGL.out; omega) HZ5.out (by decide))
  have HM6 := Lib.hid hg.r
  have HI6 := Lib.hid hg.i
  have HB6 := Lib.hid (HB5.out.trans (hg.b.mono (by have := HB1.out.size; omega)))
  clear hg hcx
  obtain ⟨se, hse⟩ : ∃ z, (rNumS (rNumS (rNumS (rNumS (some b) 1) 8) 1) 4) = z := ⟨_, rfl⟩
  rw [hse] at HI6 HOKM
  clear hse
  have HEN := Lib.hid (rend_any w1.heap.size br se w6 HI6.out)
  have hcx := fun j => cell_of_row w6 gx j _ _ _ HX6.out
  by_cases hq : se = some []
  · rw [if_pos hq] at HEN
    have HQ := Lib.hid hq
    clear hq
    go_wp2_with fail
    refine HEN.out.mono ?_
    rintro e w7 ⟨rfl, nd, rfl⟩
    have hbn := below_drewN w6 nd
    have HB7 := Lib.hid (HB6.out.trans (hbn.mono HB6.out.size))
    have HX7 := Lib.hid ((hbn.block _ (block_lt HX6.out)).trans HX6.out)
    have HM7 := Lib.hid ((hbn.block _ (block_lt HM6.out)).trans HM6.out)
    have HZ7 := Lib.hid ((hbn.block _ (block_lt HZ6.out)).trans HZ6.out)
    clear hbn hcx
    generalize hw7 : w6.drewN nd = w7 at *
    clear hw7
    have hcx := fun j => cell_of_row w7 gx j _ _ _ HX7.out
    obtain ⟨f1, f2⟩ := row_loT 11 HM7.out rfl rfl
    go_wp2_with fail
    clear f1 f2 hcx
    refine (HMM.out _).mono ?_
    rintro e w8 ⟨rfl, hbn⟩
    have HB7 := Lib.hid (HB7.out.trans (hbn.mono HB7.out.size))
    have HX7 := Lib.hid ((hbn.block _ (block_lt HX7.out)).trans HX7.out)
    have HM7 := Lib.hid ((hbn.block _ (block_lt HM7.out)).trans HM7.out)
    have HZ7 := Lib.hid ((hbn.block _ (block_lt HZ7.out)).trans HZ7.out)
    clear hbn
    cases mb
    · have HOKF : Hid (ok = false) := Lib.hid (by rw [HOKM.out]; simp)
      have th := there_rowT (n := 11) HZ7.out rfl
      have h1n : ([.int .i64 0, .int .u64 0, .int .i64 0, .int .i64 0, .int .i64 0, .int .i64 0, .int .i64 0, .int .i64 0, .int .i64 0, .int .i64 0, .int .u64 0] : List Value).length = 11 := rfl
      have h1c : ([.int .i64 0, .int .u64 0, .int .i64 0, .int .i64 0, .int .i64 0, .int .i64 0, .int .i64 0, .int .i64 0, .int .i64 0, .int .i64 0, .int .u64 0] : List Value).all (·.oneCell') = true := rfl
      go_wp2_with fail
      have hr6 := setCells_rowT (g := w.heap.size) (cs := [.int .i64 0, .int .u64 0, .int .i64 0, .int .i64 0, .int .i64 0, .int .i64 0, .int .i64 0, .int .i64 0, .int .i64 0, .int .i64 0, .int .u64 0]) HZ7.out rfl
      (try simp only [Exit.inBlock, Exit.then])
      refine bodyPost_ret (results_cellT2 rfl _ _ w.heap.size rfl (loadMl hr6 rfl)) rfl ?_
      have e0 : mo = zMl := by rw [HOFM.out, if_neg (by rw [HOKF.out]; simp)]
      obtain rfl : ev = 4 := by rw [← HEV.out]; exact if_neg (by rw [HOKF.out]; simp)
      rw [e0]
      exact ⟨rfl, Only.below (HB1.out.trans (HB7.out.mono HB1.out.size)) (Nat.le_refl _) (HB1.out.trans (HB7.out.mono HB1.out.size)).size ((Only.refl w.heap.size _).setCells 0 _)⟩
    · have HOKT : Hid (ok = true) := Lib.hid (by rw [HOKM.out, HQ.out]; rfl)
      have hcx := fun j => cell_of_row w8 gx j _ _ _ HX7.out
      obtain ⟨f1, f2⟩ := row_loT 11 HM7.out rfl rfl
      have th := there_rowT (n := 11) HZ7.out rfl
      have h1n : ([.int .i64 (KV : Int), .int .u64 (rNumV (rNumS (some b) 1) 8 : Int), .int .i64 (rNumV (rNumS (rNumS (some b) 1) 8) 1 : Int), .int .i64 (rNumV (rNumS (rNumS (rNumS (some b) 1) 8) 1) 4 : Int), .int .i64 0, .int .i64 0, .int .i64 0, .int .i64 0, .int .i64 0, .int .i64 0, .int .u64 0] : List Value).length = 11 := rfl
      have h1c : ([.int .i64 (KV : Int), .int .u64 (rNumV (rNumS (some b) 1) 8 : Int), .int .i64 (rNumV (rNumS (rNumS (some b) 1) 8) 1 : Int), .int .i64 (rNumV (rNumS (rNumS (rNumS (some b) 1) 8) 1) 4 : Int), .int .i64 0, .int .i64 0, .int .i64 0, .int .i64 0, .int .i64 0, .int .i64 0, .int .u64 0] : List Value).all (·.oneCell') = true := rfl
      go_wp2_with fail
      have hr6 := setCells_rowT (g := w.heap.size) (cs := [.int .i64 (KV : Int), .int .u64 (rNumV (rNumS (some b) 1) 8 : Int), .int .i64 (rNumV (rNumS (rNumS (some b) 1) 8) 1 : Int), .int .i64 (rNumV (rNumS (rNumS (rNumS (some b) 1) 8) 1) 4 : Int), .int .i64 0, .int .i64 0, .int .i64 0, .int .i64 0, .int .i64 0, .int .i64 0, .int .u64 0]) HZ7.out rfl
      (try simp only [Exit.inBlock, Exit.then])
      refine bodyPost_ret (results_cellT2 rfl _ _ w.heap.size rfl (loadMl hr6 rfl)) rfl ?_
      have e0 := HOFM.out
      rw [if_pos HOKT.out] at e0
      obtain rfl : ev = 0 := by rw [← HEV.out]; exact if_pos HOKT.out
      rw [e0]
      exact ⟨rfl, Only.below (HB1.out.trans (HB7.out.mono HB1.out.size)) (Nat.le_refl _) (HB1.out.trans (HB7.out.mono HB1.out.size)).size ((Only.refl w.heap.size _).setCells 0 _)⟩
  · rw [if_neg hq] at HEN
    have HOKF : Hid (ok = false) := Lib.hid (by rw [HOKM.out, decide_eq_false hq]; rfl)
    clear hq
    go_wp2_with fail
    refine HEN.out.mono ?_
    rintro e w7 ⟨rfl, nd, rfl⟩
    have hbn := below_drewN w6 nd
    have HB7 := Lib.hid (HB6.out.trans (hbn.mono HB6.out.size))
    have HX7 := Lib.hid ((hbn.block _ (block_lt HX6.out)).trans HX6.out)
    have HM7 := Lib.hid ((hbn.block _ (block_lt HM6.out)).trans HM6.out)
    have HZ7 := Lib.hid ((hbn.block _ (block_lt HZ6.out)).trans HZ6.out)
    clear hbn hcx
    generalize hw7 : w6.drewN nd = w7 at *
    clear hw7
    have th := there_rowT (n := 11) HZ7.out rfl
    have h1n : ([.int .i64 0, .int .u64 0, .int .i64 0, .int .i64 0, .int .i64 0, .int .i64 0, .int .i64 0, .int .i64 0, .int .i64 0, .int .i64 0, .int .u64 0] : List Value).length = 11 := rfl
    have h1c : ([.int .i64 0, .int .u64 0, .int .i64 0, .int .i64 0, .int .i64 0, .int .i64 0, .int .i64 0, .int .i64 0, .int .i64 0, .int .i64 0, .int .u64 0] : List Value).all (·.oneCell') = true := rfl
    go_wp2_with fail
    have hr6 := setCells_rowT (g := w.heap.size) (cs := [.int .i64 0, .int .u64 0, .int .i64 0, .int .i64 0, .int .i64 0, .int .i64 0, .int .i64 0, .int .i64 0, .int .i64 0, .int .i64 0, .int .u64 0]) HZ7.out rfl
    (try simp only [Exit.inBlock, Exit.then])
    refine bodyPost_ret (results_cellT2 rfl _ _ w.heap.size rfl (loadMl hr6 rfl)) rfl ?_
    have e0 : mo = zMl := by rw [HOFM.out, if_neg (by rw [HOKF.out]; simp)]
    obtain rfl : ev = 4 := by rw [← HEV.out]; exact if_neg (by rw [HOKF.out]; simp)
    rw [e0]
    exact ⟨rfl, Only.below (HB1.out.trans (HB7.out.mono HB1.out.size)) (Nat.le_refl _) (HB1.out.trans (HB7.out.mono HB1.out.size)).size ((Only.refl w.heap.size _).setCells 0 _)⟩

theorem mailOf_any (v : Value) (b : List UInt8) (hl : b.length ≤ 1073741824) (w : World) (hv : BS w v b) :
    Calls Tryz.prog 40 #[v] w fun e w' => e = .returned (.tuple #[.agg (mOf b).arr, .int .i64 (if okM b = true then 0 else 4)]) ∧ Below w.heap.size w w' := by
  by_cases h3 : rNumV (some b) 1 = 3
  · exact mailOfD v b hl h3 w hv
  · by_cases h2 : rNumV (some b) 1 = 2
    · exact mailOfG v b hl h2 w hv
    · exact mailOfO v b hl h3 h2 w hv
end Go.Proofs.YtbmphlpmipkpcaaGreat
