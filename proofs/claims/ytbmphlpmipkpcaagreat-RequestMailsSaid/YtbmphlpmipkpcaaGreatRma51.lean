/- Contract: the reference's bytes of a mail (couponref16.MailBytes). Contract: the reference's bytes of a letter (couponref20.Bytes). -/
import Derived.Test.YtbmphlpmipkpcaaGreatRma50
import Derived.Test.YtbmphlpmipkpcaaGreatRma39
import Derived.Test.YtbmphlpmipkpcaaGreatRma41

section
set_option linter.unusedVariables false
set_option linter.unusedSimpArgs false
namespace Go.Proofs.YtbmphlpmipkpcaaGreat
open Go.RowKit

theorem yw_one {w X : World} (hb : Below w.heap.size w X) (k : Int) (hf : fitB k 256) : YW w (X.alloc (.cells #[.int .u8 k] 5 (0, 0))) (.slice (some ⟨X.heap.size, 0, none⟩) 1 1) (Wire.be k.toNat 1) 1 := by
  have h2 : Wire.be k.toNat 1 = [UInt8.ofNat (k.toNat % 256)] := rfl
  have h3 : ((UInt8.ofNat (k.toNat % 256)).toNat : Int) = k := by
    rw [UInt8.toNat_ofNat']
    have := hf.1
    have := hf.2
    omega
  refine ⟨hb.trans (((Below.refl X.heap.size X).alloc (Nat.le_refl _) _).mono hb.size), ?_, by rw [h2]; exact Nat.le_refl 1⟩
  rw [h2]
  refine ⟨rfl, .inr ⟨X.heap.size, 1, _, rfl, hb.size, new_rowW X _ _ rfl, Nat.le_refl _, by unfold maxLen; decide, rfl, ?_⟩⟩
  show ([.int .u8 k] : List Value).take (1 * 1) = [Value.int .u8 ((UInt8.ofNat (k.toNat % 256)).toNat : Int)]
  rw [h3]; rfl
set_option maxRecDepth 8000 in
set_option maxHeartbeats 8000000 in
theorem rMailBytes_any (k tk c d co fl dy va st ho nx : Int) (hk : fitB k 256) (ht : fitB tk 18446744073709551616) (hc : fitB c 256)
    (hA : (k = 3 → fitB co 256) ∧ (¬ k = 3 → fitB d 4294967296) ∧ (k = 2 → fitB fl 65536 ∧ fitB dy 4294967296 ∧ fitB va 18446744073709551616)) (w : World) :
    Calls Tryz.prog 41 #[.agg #[.int .i64 k, .int .u64 tk, .int .i64 c, .int .i64 d, .int .i64 co, .int .i64 fl, .int .i64 dy, .int .i64 va, .int .i64 st, .int .i64 ho, .int .u64 nx]] w fun e w' => ∃ u, e = .returned u ∧ w'.ownsRow w.heap.size 5 1 u (encM ⟨k, tk, c, d, co, fl, dy, va, st, ho, nx⟩).length (bytesV (encM ⟨k, tk, c, d, co, fl, dy, va, st, ho, nx⟩)) ∧ Below w.heap.size w w' := by
  have FK := Lib.hid hk
  have FT := Lib.hid ht
  have FC := Lib.hid hc
  have HFA := Lib.hid hA
  have kk := wrap_byte hk
  have kc := wrap_byte hc
  clear hk ht hc hA
  have HBD := Lib.hid ((Below.refl w.heap.size w).alloc (Nat.le_refl _) (.cells #[.int .i64 k, .int .u64 tk, .int .i64 c, .int .i64 d, .int .i64 co, .int .i64 fl, .int .i64 dy, .int .i64 va, .int .i64 st, .int .i64 ho, .int .u64 nx] 78))
  have HR := Lib.hid (new_rowW w (.cells #[.int .i64 k, .int .u64 tk, .int .i64 c, .int .i64 d, .int .i64 co, .int .i64 fl, .int .i64 dy, .int .i64 va, .int .i64 st, .int .i64 ho, .int .u64 nx] 78) _ rfl)
  go_enter Tryz.func41, Tryz.ntmps41
  go_upto_region 1 with fail
  generalize w.alloc (.cells #[.int .i64 k, .int .u64 tk, .int .i64 c, .int .i64 d, .int .i64 co, .int .i64 fl, .int .i64 dy, .int .i64 va, .int .i64 st, .int .i64 ho, .int .u64 nx] 78) = W0 at *
  refine wp_region_G (C := fun W => (∀ j : Nat, W.cell? ⟨w.heap.size, j, none⟩ = (#[.int .i64 k, .int .u64 tk, .int .i64 c, .int .i64 d, .int .i64 co, .int .i64 fl, .int .i64 dy, .int .i64 va, .int .i64 st, .int .i64 ho, .int .u64 nx] : Array Value)[j]?)) (s0 := 11) (by kernel_rfl) ?_
  replace HBD := Lib.hid HBD.out.drew
  replace HR := Lib.hid (row_drewT HR.out)
  generalize W0.drew = wd at *
  have hHeld := (show (∀ j : Nat, wd.cell? ⟨w.heap.size, j, none⟩ = (#[.int .i64 k, .int .u64 tk, .int .i64 c, .int .i64 d, .int .i64 co, .int .i64 fl, .int .i64 dy, .int .i64 va, .int .i64 st, .int .i64 ho, .int .u64 nx] : Array Value)[j]?) from fun j => cell_of_row _ w.heap.size j _ _ _ HR.out)
  refine wpAnyG_takeU (i := 0) (oi := { dst := some 4, op := Op.fieldAddr 78 (Operand.tmp 1) 0, type := 0, pos := "ref.go:279", after := #[], guard := none }) (v := ?_) rfl (by kernel_rfl) (by kernel_rfl) (by kernel_rfl) (by decide) (fun _ _ _ h => h) (Or.inl ⟨by rfl, ?_⟩) (.inl (by assumption)) ?_
  rotate_left
  · intro w hSw; go_simp; try with_reducible rfl
  try simp only [Act.put, List.setIfInBounds_toArray, List.set_cons_zero, List.set_cons_succ]
  refine wpAnyG_takeM (i := 1) (oi := { dst := some 5, op := Op.load 67 (Operand.tmp 4), type := 67, pos := "ref.go:279", after := #[{ on := 0, ground := Ground.data }], guard := none }) (v := ?_) (ms := [2, 3, 6, 11, 12]) rfl (by kernel_rfl) (by kernel_rfl) (by kernel_rfl) (by kernel_rfl) (by kernel_rfl) (fun _ _ _ h => h) (Or.inl ⟨by rfl, ?_⟩) (by assumption) ?_
  rotate_left
  · intro w hSw; (try (try dsimp only at hSw)); go_simp; try with_reducible rfl
  try simp only [Act.put, List.setIfInBounds_toArray, List.set_cons_zero, List.set_cons_succ]
  refine wpAnyG_takeU (i := 2) (oi := { dst := some 6, op := Op.convert 67 5 (Operand.tmp 5), type := 5, pos := "ref.go:279", after := #[{ on := 1, ground := Ground.data }], guard := none }) (v := ?_) rfl (by kernel_rfl) (by kernel_rfl) (by kernel_rfl) (by decide) (fun _ _ _ h => h) (Or.inl ⟨by rfl, ?_⟩) (.inl (by assumption)) ?_
  rotate_left
  · intro w hSw; go_simp; try with_reducible rfl
  try simp only [Act.put, List.setIfInBounds_toArray, List.set_cons_zero, List.set_cons_succ]
  refine wpAnyG_takeU (i := 4) (oi := { dst := some 8, op := Op.fieldAddr 78 (Operand.tmp 1) 1, type := 0, pos := "ref.go:279", after := #[], guard := none }) (v := ?_) rfl (by kernel_rfl) (by kernel_rfl) (by kernel_rfl) (by decide) (fun _ _ _ h => h) (Or.inl ⟨by rfl, ?_⟩) (.inl (by assumption)) ?_
  rotate_left
  · intro w hSw; go_simp; try with_reducible rfl
  try simp only [Act.put, List.setIfInBounds_toArray, List.set_cons_zero, List.set_cons_succ]
  refine wpAnyG_takeM (i := 5) (oi := { dst := some 9, op := Op.load 22 (Operand.tmp 8), type := 22, pos := "ref.go:279", after := #[{ on := 4, ground := Ground.data }], guard := none }) (v := ?_) (ms := [6, 11, 12]) rfl (by kernel_rfl) (by kernel_rfl) (by kernel_rfl) (by kernel_rfl) (by kernel_rfl) (fun _ _ _ h => h) (Or.inl ⟨by rfl, ?_⟩) (by assumption) ?_
  rotate_left
  · intro w hSw; (try (try dsimp only at hSw)); go_simp; try with_reducible rfl
  try simp only [Act.put, List.setIfInBounds_toArray, List.set_cons_zero, List.set_cons_succ]
  refine wpAnyG_takeU (i := 7) (oi := { dst := some 11, op := Op.fieldAddr 78 (Operand.tmp 1) 2, type := 0, pos := "ref.go:279", after := #[], guard := none }) (v := ?_) rfl (by kernel_rfl) (by kernel_rfl) (by kernel_rfl) (by decide) (fun _ _ _ h => h) (Or.inl ⟨by rfl, ?_⟩) (.inl (by assumption)) ?_
  rotate_left
  · intro w hSw; go_simp; try with_reducible rfl
  try simp only [Act.put, List.setIfInBounds_toArray, List.set_cons_zero, List.set_cons_succ]
  refine wpAnyG_takeM (i := 8) (oi := { dst := some 12, op := Op.load 3 (Operand.tmp 11), type := 3, pos := "ref.go:279", after := #[{ on := 7, ground := Ground.data }], guard := none }) (v := ?_) (ms := [9, 10, 11, 12]) rfl (by kernel_rfl) (by kernel_rfl) (by kernel_rfl) (by kernel_rfl) (by kernel_rfl) (fun _ _ _ h => h) (Or.inl ⟨by rfl, ?_⟩) (by assumption) ?_
  rotate_left
  · intro w hSw; (try (try dsimp only at hSw)); go_simp; try with_reducible rfl
  try simp only [Act.put, List.setIfInBounds_toArray, List.set_cons_zero, List.set_cons_succ]
  refine wpAnyG_takeU (i := 9) (oi := { dst := some 13, op := Op.convert 3 5 (Operand.tmp 12), type := 5, pos := "ref.go:279", after := #[{ on := 8, ground := Ground.data }], guard := none }) (v := ?_) rfl (by kernel_rfl) (by kernel_rfl) (by kernel_rfl) (by decide) (fun _ _ _ h => h) (Or.inl ⟨by rfl, ?_⟩) (.inl (by assumption)) ?_
  rotate_left
  · intro w hSw; go_simp; try with_reducible rfl
  try simp only [Act.put, List.setIfInBounds_toArray, List.set_cons_zero, List.set_cons_succ]
  refine cutK (J := ?J1) ?h1 ?k1
  case h1 =>
    intro hJ
    have HJ := Lib.hid hJ
    clear hJ
    refine wpAnyG_two (i := 3) (oi := { dst := some 7, op := Op.buildSlice 47 1 #[(0, Operand.tmp 6)], type := 47, pos := "ref.go:279", after := #[{ on := 2, ground := Ground.data }], guard := none }) (j := 10) (oj := { dst := some 14, op := Op.buildSlice 47 1 #[(0, Operand.tmp 13)], type := 47, pos := "ref.go:279", after := #[{ on := 9, ground := Ground.data }], guard := none }) (by kernel_rfl) rfl rfl (fun K hK => ?_) (fun K hK => ?_)
    · go_simp
      have hbn := (Below.refl wd.heap.size wd).alloc (Nat.le_refl _) (.cells #[.int .u8 k] 5 (0, 0))
      have HY := Lib.hid (yw_one HBD.out k FK.out)
      replace HBD := Lib.hid (HBD.out.trans (hbn.mono HBD.out.size))
      replace HR := Lib.hid ((hbn.block _ (block_lt HR.out)).trans HR.out)
      clear hbn
      have hHeld := (show (∀ j : Nat, (wd.alloc (.cells #[.int .u8 k] 5 (0, 0))).cell? ⟨w.heap.size, j, none⟩ = (#[.int .i64 k, .int .u64 tk, .int .i64 c, .int .i64 d, .int .i64 co, .int .i64 fl, .int .i64 dy, .int .i64 va, .int .i64 st, .int .i64 ho, .int .u64 nx] : Array Value)[j]?) from fun j => cell_of_row _ w.heap.size j _ _ _ HR.out)
      refine hK.out _ _ (.inl hHeld) ?_
      clear hK K
      try simp only [Act.put, List.setIfInBounds_toArray, List.set_cons_zero, List.set_cons_succ]
      clear hHeld
      generalize wd.alloc (.cells #[.int .u8 k] 5 (0, 0)) = wa at *
      generalize wd.heap.size = ga at *
      have hHeld := (show (∀ j : Nat, wa.cell? ⟨w.heap.size, j, none⟩ = (#[.int .i64 k, .int .u64 tk, .int .i64 c, .int .i64 d, .int .i64 co, .int .i64 fl, .int .i64 dy, .int .i64 va, .int .i64 st, .int .i64 ho, .int .u64 nx] : Array Value)[j]?) from fun j => cell_of_row _ w.heap.size j _ _ _ HR.out)
      refine wpAnyG_two (i := 6) (oi := { dst := some 10, op := Op.call { callee := Callee.value (Operand.func 79), args := #[Operand.tmp 7, Operand.tmp 9, Operand.const (Value.int IntKind.i64 8)], argTypes := #[47, 22, 3] }, type := 47, pos := "ref.go:279", after := #[{ on := 3, ground := Ground.data }, { on := 5, ground := Ground.data }], guard := none }) (j := 10) (oj := { dst := some 14, op := Op.buildSlice 47 1 #[(0, Operand.tmp 13)], type := 47, pos := "ref.go:279", after := #[{ on := 9, ground := Ground.data }], guard := none }) (by kernel_rfl) rfl rfl (fun K hK => ?_) (fun K hK => ?_)
      · go_simp
        go_at_call 79
        refine (put16_any w.heap.size _ _ tk 8 (by decide) FT.out (by decide) (by have := HY.out.l; omega) _ HY.out.b.size HY.out.o).mono ?_
        rintro e wb ⟨u, rfl, hown, hg⟩
        clear hHeld
        have HYO := HY
        replace HY := Lib.hid (HYO.out.grown hown hg 8 (Wire.be_length _ _))
        replace HR := Lib.hid (HYO.out.row hg HR.out (by decide))
        replace HBD := Lib.hid HY.out.b
        clear hown hg HYO
        have hHeld := (show (∀ j : Nat, wb.cell? ⟨w.heap.size, j, none⟩ = (#[.int .i64 k, .int .u64 tk, .int .i64 c, .int .i64 d, .int .i64 co, .int .i64 fl, .int .i64 dy, .int .i64 va, .int .i64 st, .int .i64 ho, .int .u64 nx] : Array Value)[j]?) from fun j => cell_of_row _ w.heap.size j _ _ _ HR.out)
        refine hK.out _ _ (.inl hHeld) ?_
        clear hK K
        try simp only [Act.put, List.setIfInBounds_toArray, List.set_cons_zero, List.set_cons_succ]
        refine wpAnyG_one (i := 10) (o := { dst := some 14, op := Op.buildSlice 47 1 #[(0, Operand.tmp 13)], type := 47, pos := "ref.go:279", after := #[{ on := 9, ground := Ground.data }], guard := none }) (by kernel_rfl) rfl (fun K hK => ?_)
        go_simp
        have hbn := (Below.refl wb.heap.size wb).alloc (Nat.le_refl _) (.cells #[.int .u8 c] 5 (0, 0))
        have HTR := Lib.hid (new_rowW wb (.cells #[.int .u8 c] 5 (0, 0)) _ rfl)
        replace HY := Lib.hid (HY.out.below hbn)
        replace HBD := Lib.hid (HBD.out.trans (hbn.mono HBD.out.size))
        replace HR := Lib.hid ((hbn.block _ (block_lt HR.out)).trans HR.out)
        clear hbn
        have hHeld := (show (∀ j : Nat, (wb.alloc (.cells #[.int .u8 c] 5 (0, 0))).cell? ⟨w.heap.size, j, none⟩ = (#[.int .i64 k, .int .u64 tk, .int .i64 c, .int .i64 d, .int .i64 co, .int .i64 fl, .int .i64 dy, .int .i64 va, .int .i64 st, .int .i64 ho, .int .u64 nx] : Array Value)[j]?) from fun j => cell_of_row _ w.heap.size j _ _ _ HR.out)
        refine hK.out _ _ (.inl hHeld) ?_
        clear hK K
        try simp only [Act.put, List.setIfInBounds_toArray, List.set_cons_zero, List.set_cons_succ]
        clear hHeld
        generalize wb.alloc (.cells #[.int .u8 c] 5 (0, 0)) = wc at *
        generalize wb.heap.size = gb at *
        have hHeld := (show (∀ j : Nat, wc.cell? ⟨w.heap.size, j, none⟩ = (#[.int .i64 k, .int .u64 tk, .int .i64 c, .int .i64 d, .int .i64 co, .int .i64 fl, .int .i64 dy, .int .i64 va, .int .i64 st, .int .i64 ho, .int .u64 nx] : Array Value)[j]?) from fun j => cell_of_row _ w.heap.size j _ _ _ HR.out)
        clear hHeld HBD
        revert HTR
        revert HR
        revert HY
        revert gb
        revert ga
        revert u
        revert wc
        exact HJ.out
      · go_simp
        have hbn := (Below.refl wa.heap.size wa).alloc (Nat.le_refl _) (.cells #[.int .u8 c] 5 (0, 0))
        have HTR := Lib.hid (new_rowW wa (.cells #[.int .u8 c] 5 (0, 0)) _ rfl)
        have HNE : Hid (ga < wa.heap.size) := Lib.hid (HY.out.o.lt ga rfl).2
        replace HY := Lib.hid (HY.out.below hbn)
        replace HBD := Lib.hid (HBD.out.trans (hbn.mono HBD.out.size))
        replace HR := Lib.hid ((hbn.block _ (block_lt HR.out)).trans HR.out)
        clear hbn
        have hHeld := (show (∀ j : Nat, (wa.alloc (.cells #[.int .u8 c] 5 (0, 0))).cell? ⟨w.heap.size, j, none⟩ = (#[.int .i64 k, .int .u64 tk, .int .i64 c, .int .i64 d, .int .i64 co, .int .i64 fl, .int .i64 dy, .int .i64 va, .int .i64 st, .int .i64 ho, .int .u64 nx] : Array Value)[j]?) from fun j => cell_of_row _ w.heap.size j _ _ _ HR.out)
        refine hK.out _ _ (.inl hHeld) ?_
        clear hK K
        try simp only [Act.put, List.setIfInBounds_toArray, List.set_cons_zero, List.set_cons_succ]
        clear hHeld
        generalize wa.alloc (.cells #[.int .u8 c] 5 (0, 0)) = wb at *
        generalize wa.heap.size = gb at *
        have hHeld := (show (∀ j : Nat, wb.cell? ⟨w.heap.size, j, none⟩ = (#[.int .i64 k, .int .u64 tk, .int .i64 c, .int .i64 d, .int .i64 co, .int .i64 fl, .int .i64 dy, .int .i64 va, .int .i64 st, .int .i64 ho, .int .u64 nx] : Array Value)[j]?) from fun j => cell_of_row _ w.heap.size j _ _ _ HR.out)
        refine wpAnyG_one (i := 6) (o := { dst := some 10, op := Op.call { callee := Callee.value (Operand.func 79), args := #[Operand.tmp 7, Operand.tmp 9, Operand.const (Value.int IntKind.i64 8)], argTypes := #[47, 22, 3] }, type := 47, pos := "ref.go:279", after := #[{ on := 3, ground := Ground.data }, { on := 5, ground := Ground.data }], guard := none }) (by kernel_rfl) rfl (fun K hK => ?_)
        go_simp
        go_at_call 79
        refine (put16_any w.heap.size _ _ tk 8 (by decide) FT.out (by decide) (by have := HY.out.l; omega) _ HY.out.b.size HY.out.o).mono ?_
        rintro e wc ⟨u, rfl, hown, hg⟩
        clear hHeld
        replace HTR := Lib.hid ((hg.block _ (block_lt HTR.out) (fun h => by have h2 : gb = ga := Option.some.inj h; have := HNE.out; omega)).trans HTR.out)
        clear HNE
        have HYO := HY
        replace HY := Lib.hid (HYO.out.grown hown hg 8 (Wire.be_length _ _))
        replace HR := Lib.hid (HYO.out.row hg HR.out (by decide))
        replace HBD := Lib.hid HY.out.b
        clear hown hg HYO
        have hHeld := (show (∀ j : Nat, wc.cell? ⟨w.heap.size, j, none⟩ = (#[.int .i64 k, .int .u64 tk, .int .i64 c, .int .i64 d, .int .i64 co, .int .i64 fl, .int .i64 dy, .int .i64 va, .int .i64 st, .int .i64 ho, .int .u64 nx] : Array Value)[j]?) from fun j => cell_of_row _ w.heap.size j _ _ _ HR.out)
        refine hK.out _ _ (.inl hHeld) ?_
        clear hK K
        try simp only [Act.put, List.setIfInBounds_toArray, List.set_cons_zero, List.set_cons_succ]
        clear hHeld HBD
        revert HTR
        revert HR
        revert HY
        revert gb
        revert ga
        revert u
        revert wc
        exact HJ.out
    · go_simp
      have hbn := (Below.refl wd.heap.size wd).alloc (Nat.le_refl _) (.cells #[.int .u8 c] 5 (0, 0))
      have HTR := Lib.hid (new_rowW wd (.cells #[.int .u8 c] 5 (0, 0)) _ rfl)
      replace HBD := Lib.hid (HBD.out.trans (hbn.mono HBD.out.size))
      replace HR := Lib.hid ((hbn.block _ (block_lt HR.out)).trans HR.out)
      clear hbn
      have hHeld := (show (∀ j : Nat, (wd.alloc (.cells #[.int .u8 c] 5 (0, 0))).cell? ⟨w.heap.size, j, none⟩ = (#[.int .i64 k, .int .u64 tk, .int .i64 c, .int .i64 d, .int .i64 co, .int .i64 fl, .int .i64 dy, .int .i64 va, .int .i64 st, .int .i64 ho, .int .u64 nx] : Array Value)[j]?) from fun j => cell_of_row _ w.heap.size j _ _ _ HR.out)
      refine hK.out _ _ (.inl hHeld) ?_
      clear hK K
      try simp only [Act.put, List.setIfInBounds_toArray, List.set_cons_zero, List.set_cons_succ]
      clear hHeld
      generalize wd.alloc (.cells #[.int .u8 c] 5 (0, 0)) = wa at *
      generalize wd.heap.size = gb at *
      have hHeld := (show (∀ j : Nat, wa.cell? ⟨w.heap.size, j, none⟩ = (#[.int .i64 k, .int .u64 tk, .int .i64 c, .int .i64 d, .int .i64 co, .int .i64 fl, .int .i64 dy, .int .i64 va, .int .i64 st, .int .i64 ho, .int .u64 nx] : Array Value)[j]?) from fun j => cell_of_row _ w.heap.size j _ _ _ HR.out)
      refine wpAnyG_one (i := 3) (o := { dst := some 7, op := Op.buildSlice 47 1 #[(0, Operand.tmp 6)], type := 47, pos := "ref.go:279", after := #[{ on := 2, ground := Ground.data }], guard := none }) (by kernel_rfl) rfl (fun K hK => ?_)
      go_simp
      have hbn := (Below.refl wa.heap.size wa).alloc (Nat.le_refl _) (.cells #[.int .u8 k] 5 (0, 0))
      have HY := Lib.hid (yw_one HBD.out k FK.out)
      replace HBD := Lib.hid (HBD.out.trans (hbn.mono HBD.out.size))
      replace HR := Lib.hid ((hbn.block _ (block_lt HR.out)).trans HR.out)
      have hlt := block_lt HTR.out
      replace HTR := Lib.hid ((hbn.block _ hlt).trans HTR.out)
      have HNE : Hid (gb < wa.heap.size) := Lib.hid hlt
      clear hlt
      clear hbn
      have hHeld := (show (∀ j : Nat, (wa.alloc (.cells #[.int .u8 k] 5 (0, 0))).cell? ⟨w.heap.size, j, none⟩ = (#[.int .i64 k, .int .u64 tk, .int .i64 c, .int .i64 d, .int .i64 co, .int .i64 fl, .int .i64 dy, .int .i64 va, .int .i64 st, .int .i64 ho, .int .u64 nx] : Array Value)[j]?) from fun j => cell_of_row _ w.heap.size j _ _ _ HR.out)
      refine hK.out _ _ (.inl hHeld) ?_
      clear hK K
      try simp only [Act.put, List.setIfInBounds_toArray, List.set_cons_zero, List.set_cons_succ]
      clear hHeld
      generalize wa.alloc (.cells #[.int .u8 k] 5 (0, 0)) = wb at *
      generalize wa.heap.size = ga at *
      have hHeld := (show (∀ j : Nat, wb.cell? ⟨w.heap.size, j, none⟩ = (#[.int .i64 k, .int .u64 tk, .int .i64 c, .int .i64 d, .int .i64 co, .int .i64 fl, .int .i64 dy, .int .i64 va, .int .i64 st, .int .i64 ho, .int .u64 nx] : Array Value)[j]?) from fun j => cell_of_row _ w.heap.size j _ _ _ HR.out)
      refine wpAnyG_one (i := 6) (o := { dst := some 10, op := Op.call { callee := Callee.value (Operand.func 79), args := #[Operand.tmp 7, Operand.tmp 9, Operand.const (Value.int IntKind.i64 8)], argTypes := #[47, 22, 3] }, type := 47, pos := "ref.go:279", after := #[{ on := 3, ground := Ground.data }, { on := 5, ground := Ground.data }], guard := none }) (by kernel_rfl) rfl (fun K hK => ?_)
      go_simp
      go_at_call 79
      refine (put16_any w.heap.size _ _ tk 8 (by decide) FT.out (by decide) (by have := HY.out.l; omega) _ HY.out.b.size HY.out.o).mono ?_
      rintro e wc ⟨u, rfl, hown, hg⟩
      clear hHeld
      replace HTR := Lib.hid ((hg.block _ (block_lt HTR.out) (fun h => by have h2 : gb = ga := Option.some.inj h; have := HNE.out; omega)).trans HTR.out)
      clear HNE
      have HYO := HY
      replace HY := Lib.hid (HYO.out.grown hown hg 8 (Wire.be_length _ _))
      replace HR := Lib.hid (HYO.out.row hg HR.out (by decide))
      replace HBD := Lib.hid HY.out.b
      clear hown hg HYO
      have hHeld := (show (∀ j : Nat, wc.cell? ⟨w.heap.size, j, none⟩ = (#[.int .i64 k, .int .u64 tk, .int .i64 c, .int .i64 d, .int .i64 co, .int .i64 fl, .int .i64 dy, .int .i64 va, .int .i64 st, .int .i64 ho, .int .u64 nx] : Array Value)[j]?) from fun j => cell_of_row _ w.heap.size j _ _ _ HR.out)
      refine hK.out _ _ (.inl hHeld) ?_
      clear hK K
      try simp only [Act.put, List.setIfInBounds_toArray, List.set_cons_zero, List.set_cons_succ]
      clear hHeld HBD
      revert HTR
      revert HR
      revert HY
      revert gb
      revert ga
      revert u
      revert wc
      exact HJ.out
  case k1 =>
    intro Y u ga gb HY HR HTR
    have HLB := Lib.hid (bs_lits HTR.out [c] (show 1 ≤ 1000 by decide) (by intro z hz; simp only [List.mem_cons, List.not_mem_nil, or_false] at hz; rcases hz with rfl; exact FC.out) rfl)
    have hHeld := (show (∀ j : Nat, Y.cell? ⟨w.heap.size, j, none⟩ = (#[.int .i64 k, .int .u64 tk, .int .i64 c, .int .i64 d, .int .i64 co, .int .i64 fl, .int .i64 dy, .int .i64 va, .int .i64 st, .int .i64 ho, .int .u64 nx] : Array Value)[j]?) from fun j => cell_of_row _ w.heap.size j _ _ _ HR.out)
    clear HTR
    refine wpAnyG_one (i := 11) (o := { dst := some 15, op := Op.call { callee := Callee.builtin Builtin.append, args := #[Operand.tmp 10, Operand.tmp 14], argTypes := #[47, 47] }, type := 47, pos := "ref.go:279", after := #[{ on := 6, ground := Ground.data }, { on := 10, ground := Ground.data }, { on := 6, ground := Ground.chain }], guard := none }) (by kernel_rfl) rfl (fun K hK => ?_)
    refine step_append_bytesT rfl _ _ rfl w.heap.size _ _ _ rfl HY.out.o _ _ rfl HLB.out (by have := HY.out.l; have hl := lits_len [c]; simp only [List.length_cons, List.length_nil] at hl; omega) HY.out.b.size ?_
    intro u2 wq hown hg
    have HYO := HY
    replace HY := Lib.hid (HYO.out.app hown hg 1 (lits_len [c]))
    replace HR := Lib.hid (HYO.out.row hg HR.out (by decide))
    clear hown hg HYO HLB hHeld
    refine hK.out _ _ (.inr rfl) ?_
    clear hK K
    try simp only [Act.put, List.setIfInBounds_toArray, List.set_cons_zero, List.set_cons_succ]
    refine wpAnyG_takeU (i := 12) (oi := { dst := some 3, op := Op.assign (Operand.tmp 15), type := 47, pos := "ref.go:279", after := #[{ on := 11, ground := Ground.data }, { on := 11, ground := Ground.chain }, { on := 0, ground := Ground.phase }, { on := 1, ground := Ground.phase }, { on := 2, ground := Ground.phase }, { on := 3, ground := Ground.phase }, { on := 4, ground := Ground.phase }, { on := 5, ground := Ground.phase }, { on := 6, ground := Ground.phase }, { on := 7, ground := Ground.phase }, { on := 8, ground := Ground.phase }, { on := 9, ground := Ground.phase }, { on := 10, ground := Ground.phase }, { on := 11, ground := Ground.phase }], guard := none }) (v := ?_) rfl (by kernel_rfl) (by kernel_rfl) (by kernel_rfl) (by decide) (fun _ _ _ h => h) (Or.inl ⟨by rfl, ?_⟩) (.inr rfl) ?_
    rotate_left
    · intro w hSw; go_simp; try with_reducible rfl
    try simp only [Act.put, List.setIfInBounds_toArray, List.set_cons_zero, List.set_cons_succ]
    refine wpAnyG_done (by kernel_rfl) ?_ _
    replace HY := Lib.hid (HY.out.as (D' := encMh ⟨k, tk, c, d, co, fl, dy, va, st, ho, nx⟩) (by unfold encMh; simp) (Nat.le_refl _))
    clear kk kc
    have hcp := fun j => cell_of_row wq w.heap.size j _ _ _ HR.out
    by_cases h3 : k = 3
    · have FO := Lib.hid (HFA.out.1 h3)
      have zo := wrap_byte FO.out
      have HE : Hid (encM ⟨k, tk, c, d, co, fl, dy, va, st, ho, nx⟩ = encMh ⟨k, tk, c, d, co, fl, dy, va, st, ho, nx⟩ ++ Wire.be co.toNat 1) := Lib.hid (by unfold encM; rw [if_pos h3])
      generalize encMh ⟨k, tk, c, d, co, fl, dy, va, st, ho, nx⟩ = EH at *
      subst h3
      have hbn := (Below.refl wq.heap.size wq).alloc (Nat.le_refl _) (.cells #[.int .u8 co] 5 (0, 0))
      have HLB := Lib.hid (bs_lits (new_rowW wq (.cells #[.int .u8 co] 5 (0, 0)) _ rfl) [co] (show 1 ≤ 1000 by decide) (by intro z hz; simp only [List.mem_cons, List.not_mem_nil, or_false] at hz; rcases hz with rfl; exact FO.out) rfl)
      replace HY := Lib.hid (HY.out.below hbn)
      clear hbn
      go_wp2_with (at_builtin; refine wpList_append_bytes rfl _ _ rfl w.heap.size _ _ _ rfl HY.out.o _ _ rfl HLB.out ?c1 ?c2 ?_)
      case c1 => have := HY.out.l; have hl := Wire.be_length co.toNat 1; have hl2 := lits_len [co]; simp only [List.length_cons, List.length_nil] at hl2; omega
      case c2 => have := HY.out.b.size; simp at this; omega
      intro u3 w3 hown hg hn2 hat2
      have HZ := Lib.hid (HY.out.app hown hg 1 (lits_len [co]))
      clear hown hg hn2 hat2
      go_wp2
      go_ret
      exact ⟨_, rfl, by rw [HE.out]; have := HZ.out.o; simpa using this, HZ.out.b⟩
    · have FD := Lib.hid (HFA.out.2.1 h3)
      have zd := wrap_fit FD.out (by decide)
      have hq3 : (k == 3) = false := by simpa using h3
      go_wp2_with fail
      clear hcp
      refine (put16_any w.heap.size _ _ d 4 (by decide) FD.out (by decide) (by have := HY.out.l; omega) _ HY.out.b.size HY.out.o).mono ?_
      rintro e w3 ⟨u3, rfl, hown, hg⟩
      have HYO := HY
      replace HY := Lib.hid (HYO.out.grown hown hg 4 (Wire.be_length _ _))
      replace HR := Lib.hid (HYO.out.row hg HR.out (by decide))
      clear hown hg HYO
      have hcp := fun j => cell_of_row w3 w.heap.size j _ _ _ HR.out
      by_cases h2 : k = 2
      · obtain ⟨F1, F2, F3⟩ := HFA.out.2.2 h2
        have FF1 := Lib.hid F1; have FF2 := Lib.hid F2; have FF3 := Lib.hid F3
        clear F1 F2 F3
        have HE : Hid (encM ⟨k, tk, c, d, co, fl, dy, va, st, ho, nx⟩ = (encMh ⟨k, tk, c, d, co, fl, dy, va, st, ho, nx⟩ ++ Wire.be d.toNat 4) ++ fl16 fl dy va) := Lib.hid (by unfold encM fl16; rw [if_neg h3, if_pos h2]; simp only [List.append_assoc])
        generalize encMh ⟨k, tk, c, d, co, fl, dy, va, st, ho, nx⟩ = EH at *
        subst h2
        go_wp2_with fail
        clear hcp
        refine (flight16_any w.heap.size _ _ fl dy va st ho nx (by have := HY.out.l; omega) FF1.out FF2.out FF3.out _ HY.out.b.size HY.out.o).mono ?_
        rintro e w4 ⟨u4, rfl, hown, hb4, -⟩
        have HO := Lib.hid hown
        have HB4 := Lib.hid (HY.out.b.trans hb4)
        clear hown hb4
        go_wp2
        go_ret
        exact ⟨_, rfl, by rw [HE.out]; exact HO.out, HB4.out⟩
      · have hq2 : (k == 2) = false := by simpa using h2
        have HE : Hid (encM ⟨k, tk, c, d, co, fl, dy, va, st, ho, nx⟩ = encMh ⟨k, tk, c, d, co, fl, dy, va, st, ho, nx⟩ ++ Wire.be d.toNat 4) := Lib.hid (by unfold encM; rw [if_neg h3, if_neg h2])
        clear HFA
        generalize encMh ⟨k, tk, c, d, co, fl, dy, va, st, ho, nx⟩ = EH at *
        clear h3 h2
        go_wp2
        go_ret
        exact ⟨_, rfl, by rw [HE.out]; exact HY.out.o, HY.out.b⟩
end Go.Proofs.YtbmphlpmipkpcaaGreat
end

section
set_option linter.unusedVariables false
set_option linter.unusedSimpArgs false
namespace Go.Proofs.YtbmphlpmipkpcaaGreat
open Go.RowKit

theorem rMailB_any (m : Ml) (ht : U64 m.tk) (hm : m.may = true) (w : World) :
    Calls Tryz.prog 41 #[.agg m.arr] w fun e w' => ∃ u, e = .returned u ∧ w'.ownsRow w.heap.size 5 1 u (encM m).length (bytesV (encM m)) ∧ Below w.heap.size w w' := by
  obtain ⟨hk, hn, hc, hco, hd, hw, hz2, hz3, hzc⟩ := ml_facts hm
  obtain ⟨k, tk, c, d, co, fl, dy, va, st, ho, nx⟩ := m
  simp only at hk hc hco hd hw ht
  exact rMailBytes_any k tk c d co fl dy va st ho nx ⟨by omega, by omega⟩ ⟨ht.1, by have := ht.1; have := ht.2; omega⟩ ⟨by omega, by omega⟩
    ⟨fun h => by have := hco h; exact ⟨by omega, by omega⟩, fun h => by have := hd h; exact ⟨by omega, by omega⟩, fun h => by obtain ⟨w1, w2, w3, -⟩ := hw h; exact ⟨⟨by omega, by omega⟩, ⟨by omega, by omega⟩, ⟨by omega, by omega⟩⟩⟩ w
attribute [local go_sem ↓] ml_execLoad

attribute [local go_sem] ml_load loL_drew okL_drew

end Go.Proofs.YtbmphlpmipkpcaaGreat
end
