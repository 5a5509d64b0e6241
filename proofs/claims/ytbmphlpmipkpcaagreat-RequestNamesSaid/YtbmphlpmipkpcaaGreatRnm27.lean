/- Contract: a request's clone (request.clone). -/
import Derived.Test.YtbmphlpmipkpcaaGreatRnm26

set_option linter.unusedVariables false
set_option linter.unusedSimpArgs false
namespace Go.Proofs.YtbmphlpmipkpcaaGreat
open Go.RowKit Go.Deep

attribute [local go_sem ↓] Rq_execLoad Rq_execStore

attribute [local go_sem] Rq_load Rq_store loL_drew okL_drew there_sc World.there_drew

set_option maxRecDepth 8000 in
set_option maxHeartbeats 2000000 in
theorem rqClone_any (x : Rqt) (p q : Option Addr) (n cap m cap2 : Nat) (w : World) (hc : LS Cpn.cells 6 w (.slice p n cap) x.cs) (ht : LS Txx.cells 2 w (.slice q m cap2) x.xs) (h1 : x.cs.length ≤ 1073741824) (h2 : x.xs.length ≤ 1073741824) :
    Calls Tryz.prog 71 #[.agg #[.string x.key, .int .i64 x.k, .int .i64 x.d, .int .u64 x.tk, .int .i64 x.c, .int .i64 x.st, .string x.loc, .slice p n cap, .slice q m cap2, .int .i64 x.am, .int .i64 x.fr, .int .i64 x.tt]] w fun e w' => ∃ cv tv, e = .returned (.agg #[.string x.key, .int .i64 x.k, .int .i64 x.d, .int .u64 x.tk, .int .i64 x.c, .int .i64 x.st, .string x.loc, cv, tv, .int .i64 x.am, .int .i64 x.fr, .int .i64 x.tt]) ∧ w'.ownsRow w.heap.size 33 6 cv x.cs.length (encL Cpn.cells x.cs) ∧ w'.ownsRow w.heap.size 127 2 tv x.xs.length (encL Txx.cells x.xs) ∧ Below w.heap.size w w' := by
  have hb1 := (Below.refl w.heap.size w).alloc (Nat.le_refl _) (.cells #[.string x.key, .int .i64 x.k, .int .i64 x.d, .int .u64 x.tk, .int .i64 x.c, .int .i64 x.st, .string x.loc, (.slice p n cap), (.slice q m cap2), .int .i64 x.am, .int .i64 x.fr, .int .i64 x.tt] 57 (0, 0))
  have hr1 := new_rowW w (.cells #[.string x.key, .int .i64 x.k, .int .i64 x.d, .int .u64 x.tk, .int .i64 x.c, .int .i64 x.st, .string x.loc, (.slice p n cap), (.slice q m cap2), .int .i64 x.am, .int .i64 x.fr, .int .i64 x.tt] 57 (0, 0)) _ rfl
  have hb2 := (Below.refl (w.alloc (.cells #[.string x.key, .int .i64 x.k, .int .i64 x.d, .int .u64 x.tk, .int .i64 x.c, .int .i64 x.st, .string x.loc, (.slice p n cap), (.slice q m cap2), .int .i64 x.am, .int .i64 x.fr, .int .i64 x.tt] 57 (0, 0))).heap.size (w.alloc (.cells #[.string x.key, .int .i64 x.k, .int .i64 x.d, .int .u64 x.tk, .int .i64 x.c, .int .i64 x.st, .string x.loc, (.slice p n cap), (.slice q m cap2), .int .i64 x.am, .int .i64 x.fr, .int .i64 x.tt] 57 (0, 0)))).alloc (Nat.le_refl _) (.cells #[.string ⟨#[]⟩, .int .i64 0, .int .i64 0, .int .u64 0, .int .i64 0, .int .i64 0, .string ⟨#[]⟩, .slice none 0 0, .slice none 0 0, .int .i64 0, .int .i64 0, .int .i64 0] 57 (0, 0))
  have hr2 := new_rowW (w.alloc (.cells #[.string x.key, .int .i64 x.k, .int .i64 x.d, .int .u64 x.tk, .int .i64 x.c, .int .i64 x.st, .string x.loc, (.slice p n cap), (.slice q m cap2), .int .i64 x.am, .int .i64 x.fr, .int .i64 x.tt] 57 (0, 0))) (.cells #[.string ⟨#[]⟩, .int .i64 0, .int .i64 0, .int .u64 0, .int .i64 0, .int .i64 0, .string ⟨#[]⟩, .slice none 0 0, .slice none 0 0, .int .i64 0, .int .i64 0, .int .i64 0] 57 (0, 0)) _ rfl
  have HRA := Lib.hid ((hb2.block _ (block_lt hr1)).trans hr1)
  have hsz : (w.alloc (.cells #[.string x.key, .int .i64 x.k, .int .i64 x.d, .int .u64 x.tk, .int .i64 x.c, .int .i64 x.st, .string x.loc, (.slice p n cap), (.slice q m cap2), .int .i64 x.am, .int .i64 x.fr, .int .i64 x.tt] 57 (0, 0))).heap.size = w.heap.size + 1 := by simp
  rw [hsz] at hr2
  have HB := Lib.hid (hb1.trans (hb2.mono hb1.size))
  have HRZ := Lib.hid hr2
  clear hb1 hb2 hr1 hr2 hsz
  have HLC := Lib.hid hc; have HLT := Lib.hid ht; have HL1 := Lib.hid h1; have HL2 := Lib.hid h2
  clear hc ht h1 h2
  have HCC : Hid (∀ W : World, W.heap[w.heap.size]? = some (.cells #[.string x.key, .int .i64 x.k, .int .i64 x.d, .int .u64 x.tk, .int .i64 x.c, .int .i64 x.st, .string x.loc, (.slice p n cap), (.slice q m cap2), .int .i64 x.am, .int .i64 x.fr, .int .i64 x.tt] 57 (0, 0)) → W.cell? ⟨w.heap.size, 7, none⟩ = some (.slice p n cap) ∧ W.cell? ⟨w.heap.size, 8, none⟩ = some (.slice q m cap2)) := Lib.hid (fun W h => ⟨cell_of_row _ _ 7 _ _ _ h, cell_of_row _ _ 8 _ _ _ h⟩)
  go_enter Tryz.func71, Tryz.ntmps71
  go_upto_region 1 with fail
  generalize (w.alloc (.cells #[.string x.key, .int .i64 x.k, .int .i64 x.d, .int .u64 x.tk, .int .i64 x.c, .int .i64 x.st, .string x.loc, (.slice p n cap), (.slice q m cap2), .int .i64 x.am, .int .i64 x.fr, .int .i64 x.tt] 57 (0, 0))).alloc (.cells #[.string ⟨#[]⟩, .int .i64 0, .int .i64 0, .int .u64 0, .int .i64 0, .int .i64 0, .string ⟨#[]⟩, .slice none 0 0, .slice none 0 0, .int .i64 0, .int .i64 0, .int .i64 0] 57 (0, 0)) = w2 at *
  refine wp_region_G (C := fun W => W.cell? ⟨w.heap.size, 7, none⟩ = some (.slice p n cap) ∧ W.cell? ⟨w.heap.size, 8, none⟩ = some (.slice q m cap2)) (s0 := 7) (by kernel_rfl) ?_
  have hbn := (Below.refl w2.heap.size w2).drew
  replace HB := Lib.hid (HB.out.trans (hbn.mono HB.out.size))
  replace HRA := Lib.hid ((hbn.block _ (block_lt HRA.out)).trans HRA.out)
  replace HRZ := Lib.hid ((hbn.block _ (block_lt HRZ.out)).trans HRZ.out)
  clear hbn
  generalize w2.drew = w3 at *
  have hHeld := HCC.out _ HRA.out
  refine wpAnyG_takeU (i := 0) (oi := { dst := some 3, op := Op.fieldAddr 57 (Operand.tmp 1) 7, type := 0, pos := "request.go:225", after := #[], guard := none }) (v := ?_) rfl (by kernel_rfl) (by kernel_rfl) (by kernel_rfl) (by decide) (fun _ _ _ h => h) (Or.inl ⟨by rfl, ?_⟩) (.inl (by assumption)) ?_
  rotate_left
  · intro w hSw; go_simp; try with_reducible rfl
  try simp only [Act.put, List.setIfInBounds_toArray, List.set_cons_zero, List.set_cons_succ]
  refine wpAnyG_takeM (i := 1) (oi := { dst := some 4, op := Op.load 23 (Operand.tmp 3), type := 23, pos := "request.go:225", after := #[{ on := 0, ground := Ground.data }], guard := none }) (v := ?_) (ms := [2, 5, 6, 7, 8, 9]) rfl (by kernel_rfl) (by kernel_rfl) (by kernel_rfl) (by kernel_rfl) (by kernel_rfl) (fun _ _ _ h => h) (Or.inl ⟨by rfl, ?_⟩) (by assumption) ?_
  rotate_left
  · intro w hSw; (try dsimp only at hSw); go_simp; try with_reducible rfl
  try simp only [Act.put, List.setIfInBounds_toArray, List.set_cons_zero, List.set_cons_succ]
  refine wpAnyG_takeU (i := 3) (oi := { dst := some 6, op := Op.fieldAddr 57 (Operand.tmp 1) 8, type := 0, pos := "request.go:225", after := #[], guard := none }) (v := ?_) rfl (by kernel_rfl) (by kernel_rfl) (by kernel_rfl) (by decide) (fun _ _ _ h => h) (Or.inl ⟨by rfl, ?_⟩) (.inl (by assumption)) ?_
  rotate_left
  · intro w hSw; go_simp; try with_reducible rfl
  try simp only [Act.put, List.setIfInBounds_toArray, List.set_cons_zero, List.set_cons_succ]
  refine wpAnyG_takeM (i := 4) (oi := { dst := some 7, op := Op.load 24 (Operand.tmp 6), type := 24, pos := "request.go:225", after := #[{ on := 3, ground := Ground.data }], guard := none }) (v := ?_) (ms := [5, 6, 7, 8, 9]) rfl (by kernel_rfl) (by kernel_rfl) (by kernel_rfl) (by kernel_rfl) (by kernel_rfl) (fun _ _ _ h => h) (Or.inl ⟨by rfl, ?_⟩) (by assumption) ?_
  rotate_left
  · intro w hSw; (try dsimp only at hSw); go_simp; try with_reducible rfl
  try simp only [Act.put, List.setIfInBounds_toArray, List.set_cons_zero, List.set_cons_succ]
  refine wpAnyG_one (i := 2) (o := { dst := some 5, op := Op.call { callee := Callee.value (Operand.func 129), args := #[Operand.tmp 4], argTypes := #[23] }, type := 23, pos := "request.go:225", after := #[{ on := 1, ground := Ground.data }], guard := none }) (by kernel_rfl) rfl (fun K hK => ?_)
  go_simp
  go_at_call 129
  refine (cloneCp_any _ x.cs HL1.out _ (HLC.out.below HB.out)).mono ?_
  rintro e wn ⟨v1, rfl, hown, hb⟩
  have O1 := Lib.hid (own_monoT hown HB.out.size)
  obtain ⟨q1, z1, rfl⟩ := rec_formT hown
  replace HB := Lib.hid (HB.out.trans (hb.mono HB.out.size))
  replace HRA := Lib.hid ((hb.block _ (block_lt HRA.out)).trans HRA.out)
  replace HRZ := Lib.hid ((hb.block _ (block_lt HRZ.out)).trans HRZ.out)
  clear hown hb
  refine hK.out _ _ (.inl (HCC.out _ HRA.out)) ?_
  clear hK K hHeld
  try simp only [Act.put, List.setIfInBounds_toArray, List.set_cons_zero, List.set_cons_succ]
  have hHeld := HCC.out _ HRA.out
  skip
  refine wpAnyG_takeU (i := 6) (oi := { dst := some 9, op := Op.fieldAddr 57 (Operand.tmp 1) 7, type := 0, pos := "request.go:225", after := #[{ on := 0, ground := Ground.phase }, { on := 1, ground := Ground.phase }, { on := 2, ground := Ground.phase }, { on := 3, ground := Ground.phase }, { on := 4, ground := Ground.phase }, { on := 5, ground := Ground.textOnly Departure.lateStoresUnsure }], guard := none }) (v := ?_) rfl (by kernel_rfl) (by kernel_rfl) (by kernel_rfl) (by decide) (fun _ _ _ h => h) (Or.inl ⟨by rfl, ?_⟩) (.inl (by assumption)) ?_
  rotate_left
  · intro w hSw; go_simp; try with_reducible rfl
  try simp only [Act.put, List.setIfInBounds_toArray, List.set_cons_zero, List.set_cons_succ]
  refine wpAnyG_one (i := 5) (o := { dst := some 8, op := Op.call { callee := Callee.value (Operand.func 130), args := #[Operand.tmp 7], argTypes := #[24] }, type := 24, pos := "request.go:225", after := #[{ on := 4, ground := Ground.data }, { on := 2, ground := Ground.chain }], guard := none }) (by kernel_rfl) rfl (fun K hK => ?_)
  go_simp
  go_at_call 130
  refine (cloneTx_any _ x.xs HL2.out _ (HLT.out.below HB.out)).mono ?_
  rintro e wn ⟨v1, rfl, hown, hb⟩
  have O2 := Lib.hid (own_monoT hown HB.out.size)
  replace O1 := Lib.hid (recs_below O1.out hb)
  obtain ⟨q2, z2, rfl⟩ := rec_formT hown
  replace HB := Lib.hid (HB.out.trans (hb.mono HB.out.size))
  replace HRA := Lib.hid ((hb.block _ (block_lt HRA.out)).trans HRA.out)
  replace HRZ := Lib.hid ((hb.block _ (block_lt HRZ.out)).trans HRZ.out)
  clear hown hb
  refine hK.out _ _ (.inl (HCC.out _ HRA.out)) ?_
  clear hK K hHeld
  try simp only [Act.put, List.setIfInBounds_toArray, List.set_cons_zero, List.set_cons_succ]
  have hHeld := HCC.out _ HRA.out
  skip
  refine wpAnyG_one (i := 7) (o := { dst := none, op := Op.store 23 (Operand.tmp 9) (Operand.tmp 5), type := 0, pos := "request.go:225", after := #[{ on := 6, ground := Ground.data }, { on := 2, ground := Ground.data }, { on := 5, ground := Ground.chain }, { on := 0, ground := Ground.phase }, { on := 1, ground := Ground.phase }, { on := 2, ground := Ground.phase }, { on := 3, ground := Ground.phase }, { on := 4, ground := Ground.phase }, { on := 5, ground := Ground.textOnly Departure.lateStoresUnsure }], guard := none }) (by kernel_rfl) rfl (fun K hK => ?_)
  have kc := fun j => cell_of_row _ w.heap.size j _ _ _ HRA.out
  have kf := fun j => frozen_of_row _ w.heap.size j _ _ HRA.out
  go_simp
  refine hK.out _ _ (.inr rfl) ?_
  clear hK K kc kf
  try simp only [Act.put, List.setIfInBounds_toArray, List.set_cons_zero, List.set_cons_succ]
  have HRA0 := HRA
  have HON1 := Lib.hid ((Only.refl w.heap.size wn).setCell 7 (.slice q1 x.cs.length z1))
  have HRA1 := Lib.hid (heap_setCell_same _ _ 7 _ _ (.slice q1 x.cs.length z1) HRA.out)
  replace HRA := HRA1
  clear HRA1 hHeld
  refine wpAnyG_takeU (i := 8) (oi := { dst := some 10, op := Op.fieldAddr 57 (Operand.tmp 1) 8, type := 0, pos := "request.go:225", after := #[{ on := 0, ground := Ground.phase }, { on := 1, ground := Ground.phase }, { on := 2, ground := Ground.phase }, { on := 3, ground := Ground.phase }, { on := 4, ground := Ground.phase }, { on := 5, ground := Ground.phase }, { on := 6, ground := Ground.phase }, { on := 7, ground := Ground.phase }], guard := none }) (v := ?_) rfl (by kernel_rfl) (by kernel_rfl) (by kernel_rfl) (by decide) (fun _ _ _ h => h) (Or.inl ⟨by rfl, ?_⟩) (.inr rfl) ?_
  rotate_left
  · intro w hSw; go_simp; try with_reducible rfl
  try simp only [Act.put, List.setIfInBounds_toArray, List.set_cons_zero, List.set_cons_succ]
  refine wpAnyG_one (i := 9) (o := { dst := none, op := Op.store 24 (Operand.tmp 10) (Operand.tmp 8), type := 0, pos := "request.go:225", after := #[{ on := 8, ground := Ground.data }, { on := 5, ground := Ground.data }, { on := 7, ground := Ground.chain }, { on := 0, ground := Ground.phase }, { on := 1, ground := Ground.phase }, { on := 2, ground := Ground.phase }, { on := 3, ground := Ground.phase }, { on := 4, ground := Ground.phase }, { on := 5, ground := Ground.phase }, { on := 6, ground := Ground.phase }, { on := 7, ground := Ground.phase }], guard := none }) (by kernel_rfl) rfl (fun K hK => ?_)
  have kc := fun j => cell_of_row _ w.heap.size j _ _ _ HRA.out
  have kf := fun j => frozen_of_row _ w.heap.size j _ _ HRA.out
  go_simp
  refine hK.out _ _ (.inr rfl) ?_
  clear hK K kc kf
  try simp only [Act.put, List.setIfInBounds_toArray, List.set_cons_zero, List.set_cons_succ]
  refine wpAnyG_done (by kernel_rfl) ?_ _
  have HR5 : Hid (((wn.setCell ⟨w.heap.size, 7, none⟩ (.slice q1 x.cs.length z1)).setCell ⟨w.heap.size, 8, none⟩ (.slice q2 x.xs.length z2)).heap[w.heap.size]? = some (.cells #[.string x.key, .int .i64 x.k, .int .i64 x.d, .int .u64 x.tk, .int .i64 x.c, .int .i64 x.st, .string x.loc, .slice q1 x.cs.length z1, .slice q2 x.xs.length z2, .int .i64 x.am, .int .i64 x.fr, .int .i64 x.tt] 57 (0, 0))) := Lib.hid (heap_setCell_same _ _ 8 _ _ (.slice q2 x.xs.length z2) HRA.out)
  have HON := Lib.hid (HON1.out.trans ((Only.refl w.heap.size _).setCell 8 (.slice q2 x.xs.length z2)))
  have HZ5 := Lib.hid ((HON.out.block _ (block_lt HRZ.out) (by omega)).trans HRZ.out)
  replace O1 := Lib.hid (recs_only O1.out (own_neT O1.out HRA0.out (by decide)) HON.out)
  replace O2 := Lib.hid (recs_only O2.out (own_neT O2.out HRA0.out (by decide)) HON.out)
  have HB5 := Lib.hid (Only.below HB.out (Nat.le_refl _) HB.out.size HON.out)
  clear HON1 HRA HON HRZ HB
  generalize (wn.setCell ⟨w.heap.size, 7, none⟩ (.slice q1 x.cs.length z1)).setCell ⟨w.heap.size, 8, none⟩ (.slice q2 x.xs.length z2) = w5 at *
  obtain ⟨f1, f2⟩ := row_loT 12 HR5.out rfl rfl
  have th := there_rowT (n := 12) HZ5.out rfl
  have h1n : ([.string x.key, .int .i64 x.k, .int .i64 x.d, .int .u64 x.tk, .int .i64 x.c, .int .i64 x.st, .string x.loc, .slice q1 x.cs.length z1, .slice q2 x.xs.length z2, .int .i64 x.am, .int .i64 x.fr, .int .i64 x.tt] : List Value).length = 12 := rfl
  have h1c : ([.string x.key, .int .i64 x.k, .int .i64 x.d, .int .u64 x.tk, .int .i64 x.c, .int .i64 x.st, .string x.loc, .slice q1 x.cs.length z1, .slice q2 x.xs.length z2, .int .i64 x.am, .int .i64 x.fr, .int .i64 x.tt] : List Value).all (·.oneCell') = true := rfl
  go_wp2
  have hr6 := setCells_rowT (w := w5) (g := w.heap.size + 1) (cs := [.string x.key, .int .i64 x.k, .int .i64 x.d, .int .u64 x.tk, .int .i64 x.c, .int .i64 x.st, .string x.loc, .slice q1 x.cs.length z1, .slice q2 x.xs.length z2, .int .i64 x.am, .int .i64 x.fr, .int .i64 x.tt]) HZ5.out rfl
  (try simp only [Exit.inBlock, Exit.then])
  refine bodyPost_ret (results_cellT rfl _ _ (w.heap.size + 1) rfl (loadRq hr6 rfl)) rfl ?_
  have hon6 := (Only.refl (w.heap.size + 1) w5).setCells 0 [.string x.key, .int .i64 x.k, .int .i64 x.d, .int .u64 x.tk, .int .i64 x.c, .int .i64 x.st, .string x.loc, .slice q1 x.cs.length z1, .slice q2 x.xs.length z2, .int .i64 x.am, .int .i64 x.fr, .int .i64 x.tt]
  exact ⟨_, _, rfl, recs_only O1.out (own_neT O1.out HZ5.out (by decide)) hon6, recs_only O2.out (own_neT O2.out HZ5.out (by decide)) hon6, Only.below HB5.out (Nat.le_succ _) HB5.out.size hon6⟩
end Go.Proofs.YtbmphlpmipkpcaaGreat
