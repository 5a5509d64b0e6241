/- Contract: a ticket's clone. Plain words for a ticket's change; own rows written in place. Contracts: how a ticket's parts are put (the ways of the ticket package, with a writer). -/
import Derived.Test.YtadabjkhiaidcaaDsl3
import Derived.Test.YtadabjkhiaidcaaDsl12
import Derived.Test.YtadabjkhiaidcaaDsl8

section
set_option linter.unusedVariables false
set_option linter.unusedSimpArgs false
namespace Go.Proofs.Ytadabjkhiaidcaa
open Go.RowKit

theorem loadTk {w : World} {g : Nat} {cs : Array Value} {e : TypeId} (h : w.heap[g]? = some (.cells cs e (0, 0))) (hs : cs.size = 11) : (loadVar 45 ⟨g, 0, none⟩).run Try.prog w = .ok (.agg cs) w := by
  refine run_loadVar_row w g e 45 cs (0, 0) _ h Try.underlying45 rfl ?_
  rw [hs]; kernel_rfl
attribute [local go_sem ↓] Tk_execLoad Tk_execStore

attribute [local go_sem] Tk_load Tk_store loL_drew okL_drew there_sc World.there_drew

set_option maxRecDepth 4000 in
set_option maxHeartbeats 4000000 in
theorem tclone_any (t : Tk) (c x h : Sl) (w : World) (ts : TS w t c x h) (h1 : t.cs.length ≤ 1073741824) (h2 : t.ts.length ≤ 1073741824) (h3 : t.hs.length ≤ 1073741824) : Calls Try.prog 98 #[.agg #[.int .u64 t.num, .string t.loc, .int .i64 t.iss, .slice c.p c.n c.c, .slice x.p x.n x.c, .int .u64 t.prev, .int .u64 t.org, .int .u64 t.fst, .int .i64 t.vou, .int .i64 t.posts, .slice h.p h.n h.c]] w fun e w' =>
    ∃ c' x' h' : Sl, e = .returned (.agg #[.int .u64 t.num, .string t.loc, .int .i64 t.iss, .slice c'.p c'.n c'.c, .slice x'.p x'.n x'.c, .int .u64 t.prev, .int .u64 t.org, .int .u64 t.fst, .int .i64 t.vou, .int .i64 t.posts, .slice h'.p h'.n h'.c]) ∧ w'.ownsRow w.heap.size 37 6 (.slice c'.p c'.n c'.c) t.cs.length (encL Cpn.cells t.cs) ∧ w'.ownsRow w.heap.size 56 2 (.slice x'.p x'.n x'.c) t.ts.length (encL Txx.cells t.ts) ∧ w'.ownsRow w.heap.size 96 4 (.slice h'.p h'.n h'.c) t.hs.length (encL Evt.cells t.hs) ∧ Below w.heap.size w w' := by
  have HTS := Lib.hid ts
  have hb1 := (((Below.refl w.heap.size w).alloc (Nat.le_refl _) (.cells #[.int .u64 t.num, .string t.loc, .int .i64 t.iss, .slice c.p c.n c.c, .slice x.p x.n x.c, .int .u64 t.prev, .int .u64 t.org, .int .u64 t.fst, .int .i64 t.vou, .int .i64 t.posts, .slice h.p h.n h.c] 45 (0, 0))).alloc (by simp) (.cells #[.int .u64 0, .string ⟨#[]⟩, .int .i64 0, .slice none 0 0, .slice none 0 0, .int .u64 0, .int .u64 0, .int .u64 0, .int .i64 0, .int .i64 0, .slice none 0 0] 45 (0, 0))).drew
  have hr1 : (((w.alloc (.cells #[.int .u64 t.num, .string t.loc, .int .i64 t.iss, .slice c.p c.n c.c, .slice x.p x.n x.c, .int .u64 t.prev, .int .u64 t.org, .int .u64 t.fst, .int .i64 t.vou, .int .i64 t.posts, .slice h.p h.n h.c] 45 (0, 0))).alloc (.cells #[.int .u64 0, .string ⟨#[]⟩, .int .i64 0, .slice none 0 0, .slice none 0 0, .int .u64 0, .int .u64 0, .int .u64 0, .int .i64 0, .int .i64 0, .slice none 0 0] 45 (0, 0))).drew).heap[w.heap.size]? = some (.cells #[.int .u64 t.num, .string t.loc, .int .i64 t.iss, .slice c.p c.n c.c, .slice x.p x.n x.c, .int .u64 t.prev, .int .u64 t.org, .int .u64 t.fst, .int .i64 t.vou, .int .i64 t.posts, .slice h.p h.n h.c] 45 (0, 0)) := row_after (new_rowW _ _ _ rfl)
  have hz1 : (((w.alloc (.cells #[.int .u64 t.num, .string t.loc, .int .i64 t.iss, .slice c.p c.n c.c, .slice x.p x.n x.c, .int .u64 t.prev, .int .u64 t.org, .int .u64 t.fst, .int .i64 t.vou, .int .i64 t.posts, .slice h.p h.n h.c] 45 (0, 0))).alloc (.cells #[.int .u64 0, .string ⟨#[]⟩, .int .i64 0, .slice none 0 0, .slice none 0 0, .int .u64 0, .int .u64 0, .int .u64 0, .int .i64 0, .int .i64 0, .slice none 0 0] 45 (0, 0))).drew).heap[w.heap.size + 1]? = some (.cells #[.int .u64 0, .string ⟨#[]⟩, .int .i64 0, .slice none 0 0, .slice none 0 0, .int .u64 0, .int .u64 0, .int .u64 0, .int .i64 0, .int .i64 0, .slice none 0 0] 45 (0, 0)) := new_rowW _ _ _ (by simp)
  have HB1 := Lib.hid hb1; have HR1 := Lib.hid hr1; have HZ1 := Lib.hid hz1
  have HCC : Hid (∀ W : World, W.heap[w.heap.size]? = some (.cells #[.int .u64 t.num, .string t.loc, .int .i64 t.iss, .slice c.p c.n c.c, .slice x.p x.n x.c, .int .u64 t.prev, .int .u64 t.org, .int .u64 t.fst, .int .i64 t.vou, .int .i64 t.posts, .slice h.p h.n h.c] 45 (0, 0)) → W.cell? ⟨w.heap.size, 3, none⟩ = some (.slice c.p c.n c.c) ∧ W.cell? ⟨w.heap.size, 4, none⟩ = some (.slice x.p x.n x.c) ∧ W.cell? ⟨w.heap.size, 10, none⟩ = some (.slice h.p h.n h.c)) := Lib.hid (fun W hW => ⟨cell_of_row _ _ 3 _ _ _ hW, cell_of_row _ _ 4 _ _ _ hW, cell_of_row _ _ 10 _ _ _ hW⟩)
  clear hb1 hr1 hz1 ts
  go_enter Try.func98, Try.ntmps98
  go_wp2_with fail
  refine wp_region_G (C := fun W => W.cell? ⟨w.heap.size, 3, none⟩ = some (.slice c.p c.n c.c) ∧ W.cell? ⟨w.heap.size, 4, none⟩ = some (.slice x.p x.n x.c) ∧ W.cell? ⟨w.heap.size, 10, none⟩ = some (.slice h.p h.n h.c)) (s0 := 10) (by kernel_rfl) ?_
  generalize ((w.alloc (.cells #[.int .u64 t.num, .string t.loc, .int .i64 t.iss, .slice c.p c.n c.c, .slice x.p x.n x.c, .int .u64 t.prev, .int .u64 t.org, .int .u64 t.fst, .int .i64 t.vou, .int .i64 t.posts, .slice h.p h.n h.c] 45 (0, 0))).alloc (.cells #[.int .u64 0, .string ⟨#[]⟩, .int .i64 0, .slice none 0 0, .slice none 0 0, .int .u64 0, .int .u64 0, .int .u64 0, .int .i64 0, .int .i64 0, .slice none 0 0] 45 (0, 0))).drew = w1 at *
  have hHeld := HCC.out _ HR1.out
  refine wpAnyG_take (i := 0) (oi := { dst := some 3, op := Op.fieldAddr 45 (Operand.tmp 1) 3, type := 0, pos := "ticket.go:237", after := #[], guard := none }) (v := ?_) rfl (by kernel_rfl) (by kernel_rfl) (by kernel_rfl) (by decide) (by kernel_rfl) (by kernel_rfl) (fun _ _ _ h => h) (Or.inl ⟨by rfl, ?_⟩) (by assumption) ?_
  rotate_left
  · intro w hSw; (try dsimp only at hSw); go_simp; try with_reducible rfl
  try simp only [Act.put, List.setIfInBounds_toArray, List.set_cons_zero, List.set_cons_succ]
  refine wpAnyG_take (i := 1) (oi := { dst := some 4, op := Op.load 22 (Operand.tmp 3), type := 22, pos := "ticket.go:237", after := #[{ on := 0, ground := Ground.data }], guard := none }) (v := ?_) rfl (by kernel_rfl) (by kernel_rfl) (by kernel_rfl) (by decide) (by kernel_rfl) (by kernel_rfl) (fun _ _ _ h => h) (Or.inl ⟨by rfl, ?_⟩) (by assumption) ?_
  rotate_left
  · intro w hSw; (try dsimp only at hSw); go_simp; try with_reducible rfl
  try simp only [Act.put, List.setIfInBounds_toArray, List.set_cons_zero, List.set_cons_succ]
  refine wpAnyG_take (i := 3) (oi := { dst := some 6, op := Op.fieldAddr 45 (Operand.tmp 1) 4, type := 0, pos := "ticket.go:237", after := #[], guard := none }) (v := ?_) rfl (by kernel_rfl) (by kernel_rfl) (by kernel_rfl) (by decide) (by kernel_rfl) (by kernel_rfl) (fun _ _ _ h => h) (Or.inl ⟨by rfl, ?_⟩) (by assumption) ?_
  rotate_left
  · intro w hSw; (try dsimp only at hSw); go_simp; try with_reducible rfl
  try simp only [Act.put, List.setIfInBounds_toArray, List.set_cons_zero, List.set_cons_succ]
  refine wpAnyG_take (i := 4) (oi := { dst := some 7, op := Op.load 23 (Operand.tmp 6), type := 23, pos := "ticket.go:237", after := #[{ on := 3, ground := Ground.data }], guard := none }) (v := ?_) rfl (by kernel_rfl) (by kernel_rfl) (by kernel_rfl) (by decide) (by kernel_rfl) (by kernel_rfl) (fun _ _ _ h => h) (Or.inl ⟨by rfl, ?_⟩) (by assumption) ?_
  rotate_left
  · intro w hSw; (try dsimp only at hSw); go_simp; try with_reducible rfl
  try simp only [Act.put, List.setIfInBounds_toArray, List.set_cons_zero, List.set_cons_succ]
  refine wpAnyG_take (i := 6) (oi := { dst := some 9, op := Op.fieldAddr 45 (Operand.tmp 1) 10, type := 0, pos := "ticket.go:237", after := #[], guard := none }) (v := ?_) rfl (by kernel_rfl) (by kernel_rfl) (by kernel_rfl) (by decide) (by kernel_rfl) (by kernel_rfl) (fun _ _ _ h => h) (Or.inl ⟨by rfl, ?_⟩) (by assumption) ?_
  rotate_left
  · intro w hSw; (try dsimp only at hSw); go_simp; try with_reducible rfl
  try simp only [Act.put, List.setIfInBounds_toArray, List.set_cons_zero, List.set_cons_succ]
  refine wpAnyG_take (i := 7) (oi := { dst := some 10, op := Op.load 43 (Operand.tmp 9), type := 43, pos := "ticket.go:237", after := #[{ on := 6, ground := Ground.data }], guard := none }) (v := ?_) rfl (by kernel_rfl) (by kernel_rfl) (by kernel_rfl) (by decide) (by kernel_rfl) (by kernel_rfl) (fun _ _ _ h => h) (Or.inl ⟨by rfl, ?_⟩) (by assumption) ?_
  rotate_left
  · intro w hSw; (try dsimp only at hSw); go_simp; try with_reducible rfl
  try simp only [Act.put, List.setIfInBounds_toArray, List.set_cons_zero, List.set_cons_succ]
  refine wpAnyG_one (i := 2) (o := { dst := some 5, op := Op.call { callee := Callee.value (Operand.func 80), args := #[Operand.tmp 4], argTypes := #[22] }, type := 22, pos := "ticket.go:237", after := #[{ on := 1, ground := Ground.data }], guard := none }) (by kernel_rfl) rfl (fun K hK => ?_)
  go_simp
  go_at_call 80
  refine (cloneCp_any _ t.cs h1 _ (HTS.out.cs.below HB1.out)).mono ?_
  rintro e w2 ⟨v1, rfl, hown, hb⟩
  have O1 := Lib.hid (own_monoT hown HB1.out.size)
  obtain ⟨q1, z1, rfl⟩ := rec_formT hown
  have HB2 := Lib.hid (HB1.out.trans (hb.mono HB1.out.size))
  have HR2 := Lib.hid ((hb.block _ (block_lt HR1.out)).trans HR1.out)
  have HZ2 := Lib.hid ((hb.block _ (block_lt HZ1.out)).trans HZ1.out)
  clear hown hb
  refine hK.out _ _ (.inl (HCC.out _ HR2.out)) ?_
  clear hK K
  try simp only [Act.put, List.setIfInBounds_toArray, List.set_cons_zero, List.set_cons_succ]
  have hHeld2 := HCC.out _ HR2.out
  refine wpAnyG_take (i := 9) (oi := { dst := some 12, op := Op.fieldAddr 45 (Operand.tmp 1) 3, type := 0, pos := "ticket.go:237", after := #[{ on := 0, ground := Ground.phase }, { on := 1, ground := Ground.phase }, { on := 2, ground := Ground.phase }, { on := 3, ground := Ground.phase }, { on := 4, ground := Ground.phase }, { on := 5, ground := Ground.textOnly Departure.lateStoresUnsure }, { on := 6, ground := Ground.phase }, { on := 7, ground := Ground.phase }, { on := 8, ground := Ground.textOnly Departure.lateStoresUnsure }], guard := none }) (v := ?_) rfl (by kernel_rfl) (by kernel_rfl) (by kernel_rfl) (by decide) (by kernel_rfl) (by kernel_rfl) (fun _ _ _ h => h) (Or.inl ⟨by rfl, ?_⟩) (by assumption) ?_
  rotate_left
  · intro w hSw; (try dsimp only at hSw); go_simp; try with_reducible rfl
  try simp only [Act.put, List.setIfInBounds_toArray, List.set_cons_zero, List.set_cons_succ]
  clear hHeld2
  refine wpAnyG_one (i := 5) (o := { dst := some 8, op := Op.call { callee := Callee.value (Operand.func 27), args := #[Operand.tmp 7], argTypes := #[23] }, type := 23, pos := "ticket.go:237", after := #[{ on := 4, ground := Ground.data }, { on := 2, ground := Ground.chain }], guard := none }) (by kernel_rfl) rfl (fun K hK => ?_)
  go_simp
  go_at_call 27
  refine (cloneTx_any _ t.ts h2 _ (HTS.out.ts.below HB2.out)).mono ?_
  rintro e w3 ⟨v2, rfl, hown, hb⟩
  have O2 := Lib.hid (own_monoT hown HB2.out.size)
  have O1 := Lib.hid (recs_below O1.out hb)
  obtain ⟨q2, z2, rfl⟩ := rec_formT hown
  have HB3 := Lib.hid (HB2.out.trans (hb.mono HB2.out.size))
  have HR3 := Lib.hid ((hb.block _ (block_lt HR2.out)).trans HR2.out)
  have HZ3 := Lib.hid ((hb.block _ (block_lt HZ2.out)).trans HZ2.out)
  clear hown hb
  refine hK.out _ _ (.inl (HCC.out _ HR3.out)) ?_
  clear hK K
  try simp only [Act.put, List.setIfInBounds_toArray, List.set_cons_zero, List.set_cons_succ]
  refine wpAnyG_one (i := 8) (o := { dst := some 11, op := Op.call { callee := Callee.value (Operand.func 107), args := #[Operand.tmp 10], argTypes := #[43] }, type := 43, pos := "ticket.go:237", after := #[{ on := 7, ground := Ground.data }, { on := 5, ground := Ground.chain }], guard := none }) (by kernel_rfl) rfl (fun K hK => ?_)
  go_simp
  go_at_call 107
  refine (cloneEv_any _ t.hs h3 _ (HTS.out.hs.below HB3.out)).mono ?_
  rintro e w4 ⟨v3, rfl, hown, hb⟩
  have O3 := Lib.hid (own_monoT hown HB3.out.size)
  have O1 := Lib.hid (recs_below O1.out hb)
  have O2 := Lib.hid (recs_below O2.out hb)
  obtain ⟨q3, z3, rfl⟩ := rec_formT hown
  have HB4 := Lib.hid (HB3.out.trans (hb.mono HB3.out.size))
  have HR4 := Lib.hid ((hb.block _ (block_lt HR3.out)).trans HR3.out)
  have HZ4 := Lib.hid ((hb.block _ (block_lt HZ3.out)).trans HZ3.out)
  clear hown hb
  have kc := fun j => cell_of_row w4 w.heap.size j _ _ _ HR4.out
  have kf := fun j => frozen_of_row w4 w.heap.size j _ _ HR4.out
  refine hK.out _ _ (.inl (HCC.out _ HR4.out)) ?_
  clear hK K
  try simp only [Act.put, List.setIfInBounds_toArray, List.set_cons_zero, List.set_cons_succ]
  refine wpAnyG_one (i := 10) (o := { dst := none, op := Op.store 22 (Operand.tmp 12) (Operand.tmp 5), type := 0, pos := "ticket.go:237", after := #[{ on := 9, ground := Ground.data }, { on := 2, ground := Ground.data }, { on := 8, ground := Ground.chain }, { on := 0, ground := Ground.phase }, { on := 1, ground := Ground.phase }, { on := 2, ground := Ground.phase }, { on := 3, ground := Ground.phase }, { on := 4, ground := Ground.phase }, { on := 5, ground := Ground.textOnly Departure.lateStoresUnsure }, { on := 6, ground := Ground.phase }, { on := 7, ground := Ground.phase }, { on := 8, ground := Ground.textOnly Departure.lateStoresUnsure }], guard := none }) (by kernel_rfl) rfl (fun K hK => ?_)
  go_simp
  refine hK.out _ _ (.inr rfl) ?_
  clear hK K
  try simp only [Act.put, List.setIfInBounds_toArray, List.set_cons_zero, List.set_cons_succ]
  refine wpAnyG_one (i := 11) (o := { dst := some 13, op := Op.fieldAddr 45 (Operand.tmp 1) 4, type := 0, pos := "ticket.go:237", after := #[{ on := 0, ground := Ground.phase }, { on := 1, ground := Ground.phase }, { on := 2, ground := Ground.phase }, { on := 3, ground := Ground.phase }, { on := 4, ground := Ground.phase }, { on := 5, ground := Ground.phase }, { on := 6, ground := Ground.phase }, { on := 7, ground := Ground.phase }, { on := 8, ground := Ground.textOnly Departure.lateStoresUnsure }, { on := 9, ground := Ground.phase }, { on := 10, ground := Ground.phase }], guard := none }) (by kernel_rfl) rfl (fun K hK => ?_)
  go_simp
  refine hK.out _ _ (.inr rfl) ?_
  clear hK K
  try simp only [Act.put, List.setIfInBounds_toArray, List.set_cons_zero, List.set_cons_succ]
  refine wpAnyG_one (i := 12) (o := { dst := none, op := Op.store 23 (Operand.tmp 13) (Operand.tmp 8), type := 0, pos := "ticket.go:237", after := #[{ on := 11, ground := Ground.data }, { on := 5, ground := Ground.data }, { on := 10, ground := Ground.chain }, { on := 0, ground := Ground.phase }, { on := 1, ground := Ground.phase }, { on := 2, ground := Ground.phase }, { on := 3, ground := Ground.phase }, { on := 4, ground := Ground.phase }, { on := 5, ground := Ground.phase }, { on := 6, ground := Ground.phase }, { on := 7, ground := Ground.phase }, { on := 8, ground := Ground.textOnly Departure.lateStoresUnsure }, { on := 9, ground := Ground.phase }, { on := 10, ground := Ground.phase }], guard := none }) (by kernel_rfl) rfl (fun K hK => ?_)
  go_simp
  refine hK.out _ _ (.inr rfl) ?_
  clear hK K
  try simp only [Act.put, List.setIfInBounds_toArray, List.set_cons_zero, List.set_cons_succ]
  refine wpAnyG_one (i := 13) (o := { dst := some 14, op := Op.fieldAddr 45 (Operand.tmp 1) 10, type := 0, pos := "ticket.go:237", after := #[{ on := 0, ground := Ground.phase }, { on := 1, ground := Ground.phase }, { on := 2, ground := Ground.phase }, { on := 3, ground := Ground.phase }, { on := 4, ground := Ground.phase }, { on := 5, ground := Ground.phase }, { on := 6, ground := Ground.phase }, { on := 7, ground := Ground.phase }, { on := 8, ground := Ground.phase }, { on := 9, ground := Ground.phase }, { on := 10, ground := Ground.phase }, { on := 11, ground := Ground.phase }, { on := 12, ground := Ground.phase }], guard := none }) (by kernel_rfl) rfl (fun K hK => ?_)
  go_simp
  refine hK.out _ _ (.inr rfl) ?_
  clear hK K
  try simp only [Act.put, List.setIfInBounds_toArray, List.set_cons_zero, List.set_cons_succ]
  refine wpAnyG_one (i := 14) (o := { dst := none, op := Op.store 43 (Operand.tmp 14) (Operand.tmp 11), type := 0, pos := "ticket.go:237", after := #[{ on := 13, ground := Ground.data }, { on := 8, ground := Ground.data }, { on := 12, ground := Ground.chain }, { on := 0, ground := Ground.phase }, { on := 1, ground := Ground.phase }, { on := 2, ground := Ground.phase }, { on := 3, ground := Ground.phase }, { on := 4, ground := Ground.phase }, { on := 5, ground := Ground.phase }, { on := 6, ground := Ground.phase }, { on := 7, ground := Ground.phase }, { on := 8, ground := Ground.phase }, { on := 9, ground := Ground.phase }, { on := 10, ground := Ground.phase }, { on := 11, ground := Ground.phase }, { on := 12, ground := Ground.phase }], guard := none }) (by kernel_rfl) rfl (fun K hK => ?_)
  go_simp
  refine hK.out _ _ (.inr rfl) ?_
  clear hK K
  try simp only [Act.put, List.setIfInBounds_toArray, List.set_cons_zero, List.set_cons_succ]
  refine wpAnyG_done (by kernel_rfl) ?_ _
  have hr5 := heap_setCell_same _ _ 10 _ _ (.slice q3 t.hs.length z3) (heap_setCell_same _ _ 4 _ _ (.slice q2 t.ts.length z2) (heap_setCell_same _ _ 3 _ _ (.slice q1 t.cs.length z1) HR4.out))
  have HR5 : Hid ((((w4.setCell ⟨w.heap.size, 3, none⟩ (.slice q1 t.cs.length z1)).setCell ⟨w.heap.size, 4, none⟩ (.slice q2 t.ts.length z2)).setCell ⟨w.heap.size, 10, none⟩ (.slice q3 t.hs.length z3)).heap[w.heap.size]? = some (.cells #[.int .u64 t.num, .string t.loc, .int .i64 t.iss, .slice q1 t.cs.length z1, .slice q2 t.ts.length z2, .int .u64 t.prev, .int .u64 t.org, .int .u64 t.fst, .int .i64 t.vou, .int .i64 t.posts, .slice q3 t.hs.length z3] 45 (0, 0))) := Lib.hid hr5
  have HZ5 : Hid ((((w4.setCell ⟨w.heap.size, 3, none⟩ (.slice q1 t.cs.length z1)).setCell ⟨w.heap.size, 4, none⟩ (.slice q2 t.ts.length z2)).setCell ⟨w.heap.size, 10, none⟩ (.slice q3 t.hs.length z3)).heap[w.heap.size + 1]? = some (.cells #[.int .u64 0, .string ⟨#[]⟩, .int .i64 0, .slice none 0 0, .slice none 0 0, .int .u64 0, .int .u64 0, .int .u64 0, .int .i64 0, .int .i64 0, .slice none 0 0] 45 (0, 0))) := Lib.hid ((heap_setCell_other _ _ _ _ (by dsimp only; omega)).trans ((heap_setCell_other _ _ _ _ (by dsimp only; omega)).trans ((heap_setCell_other _ _ _ _ (by dsimp only; omega)).trans HZ4.out)))
  have HON5 : Hid (Only w.heap.size w4 (((w4.setCell ⟨w.heap.size, 3, none⟩ (.slice q1 t.cs.length z1)).setCell ⟨w.heap.size, 4, none⟩ (.slice q2 t.ts.length z2)).setCell ⟨w.heap.size, 10, none⟩ (.slice q3 t.hs.length z3))) := Lib.hid ((((Only.refl w.heap.size w4).setCell 3 _).setCell 4 _).setCell 10 _)
  clear hr5 kc kf
  generalize ((w4.setCell ⟨w.heap.size, 3, none⟩ (.slice q1 t.cs.length z1)).setCell ⟨w.heap.size, 4, none⟩ (.slice q2 t.ts.length z2)).setCell ⟨w.heap.size, 10, none⟩ (.slice q3 t.hs.length z3) = w5 at *
  obtain ⟨f1, f2⟩ := row_loT 11 HR5.out rfl rfl
  have th : w5.there (w.heap.size + 1) 0 11 := there_rowT HZ5.out rfl
  have h1n : ([.int .u64 t.num, .string t.loc, .int .i64 t.iss, .slice q1 t.cs.length z1, .slice q2 t.ts.length z2, .int .u64 t.prev, .int .u64 t.org, .int .u64 t.fst, .int .i64 t.vou, .int .i64 t.posts, .slice q3 t.hs.length z3] : List Value).length = 11 := rfl
  have h1c : ([.int .u64 t.num, .string t.loc, .int .i64 t.iss, .slice q1 t.cs.length z1, .slice q2 t.ts.length z2, .int .u64 t.prev, .int .u64 t.org, .int .u64 t.fst, .int .i64 t.vou, .int .i64 t.posts, .slice q3 t.hs.length z3] : List Value).all (·.oneCell') = true := rfl
  go_wp2
  have hr6 := setCells_rowT (w := w5) (g := w.heap.size + 1) (e := 45) (zs := [.int .u64 0, .string ⟨#[]⟩, .int .i64 0, .slice none 0 0, .slice none 0 0, .int .u64 0, .int .u64 0, .int .u64 0, .int .i64 0, .int .i64 0, .slice none 0 0]) (cs := [.int .u64 t.num, .string t.loc, .int .i64 t.iss, .slice q1 t.cs.length z1, .slice q2 t.ts.length z2, .int .u64 t.prev, .int .u64 t.org, .int .u64 t.fst, .int .i64 t.vou, .int .i64 t.posts, .slice q3 t.hs.length z3]) HZ5.out rfl
  have hon6 := (Only.refl (w.heap.size + 1) w5).setCells 0 ([.int .u64 t.num, .string t.loc, .int .i64 t.iss, .slice q1 t.cs.length z1, .slice q2 t.ts.length z2, .int .u64 t.prev, .int .u64 t.org, .int .u64 t.fst, .int .i64 t.vou, .int .i64 t.posts, .slice q3 t.hs.length z3])
  generalize w5.setCells (w.heap.size + 1) 0 ([.int .u64 t.num, .string t.loc, .int .i64 t.iss, .slice q1 t.cs.length z1, .slice q2 t.ts.length z2, .int .u64 t.prev, .int .u64 t.org, .int .u64 t.fst, .int .i64 t.vou, .int .i64 t.posts, .slice q3 t.hs.length z3]) = w6 at *
  refine bodyPost_ret (results_cellT rfl _ _ (w.heap.size + 1) rfl (loadTk hr6 rfl)) rfl ?_
  have keep : ∀ b, b < w4.heap.size → b ≠ w.heap.size → b ≠ w.heap.size + 1 → w6.heap[b]? = w4.heap[b]? := fun b h1 h2 h3 => (hon6.block b (Nat.lt_of_lt_of_le h1 HON5.out.size) h3).trans (HON5.out.block b h1 h2)
  refine ⟨⟨q1, _, z1⟩, ⟨q2, _, z2⟩, ⟨q3, _, z3⟩, rfl, recs_keep O1.out (fun b hb hlt => keep b hlt (own_neT O1.out HR4.out (by decide) b hb) (own_neT O1.out HZ4.out (by decide) b hb)), recs_keep O2.out (fun b hb hlt => keep b hlt (own_neT O2.out HR4.out (by decide) b hb) (own_neT O2.out HZ4.out (by decide) b hb)), recs_keep O3.out (fun b hb hlt => keep b hlt (own_neT O3.out HR4.out (by decide) b hb) (own_neT O3.out HZ4.out (by decide) b hb)), ?_⟩
  exact Only.below (Only.below HB4.out (Nat.le_refl _) HB4.out.size HON5.out) (by omega) (Nat.le_trans HB4.out.size HON5.out.size) hon6
end Go.Proofs.Ytadabjkhiaidcaa
end

section
set_option linter.unusedVariables false
set_option linter.unusedSimpArgs false
namespace Go.Proofs.Ytadabjkhiaidcaa
open Go.RowKit

namespace Tkt
def zTk : Tk := ⟨0, ⟨#[]⟩, 0, [], [], 0, 0, 0, 0, 0, []⟩
def lastD (t : Tk) : Int := match t.hs.getLast? with | none => t.iss | some e => e.dy
def chgC (c : Cpn) (tq wi : Int) : Cpn := ⟨c.fl, c.dy, c.va, tq, if tq = 9 then wi else 0, if tq = 5 then wi else 0⟩
/-- a change's error -/
def errC (t : Tk) (co on tq wi : Int) : Int :=
  if mayB t = true ∧ 1 ≤ co ∧ co ≤ t.cs.length ∧ withB t.num tq wi = true then
    match t.cs[co.toNat - 1]? with
    | none => 2
    | some c => if leadsB c.st tq = true then (if lastD t ≤ on ∧ on ≤ 1000000 then (if t.hs.length = 60 then 8 else 0) else 15) else 9
  else 2
def chg (t : Tk) (co on tq wi : Int) : Tk :=
  match t.cs[co.toNat - 1]? with
  | none => t
  | some c => ⟨t.num, t.loc, t.iss, t.cs.set (co.toNat - 1) (chgC c tq wi), t.ts, t.prev, t.org, t.fst, t.vou, t.posts, t.hs ++ [⟨on, co, c.st, tq⟩]⟩
def chgT (t : Tk) (co on tq wi : Int) : Tk := if errC t co on tq wi = 0 then chg t co on tq wi else zTk
theorem mayB_lens {t : Tk} (h : mayB t = true) : 1 ≤ t.cs.length ∧ t.cs.length ≤ 4 ∧ t.ts.length ≤ 4 ∧ t.hs.length ≤ 60 := by
  unfold mayB lensB at h
  simp only [Bool.and_eq_true, decide_eq_true_eq] at h
  omega
theorem errC_ok {t : Tk} {k : Nat} {y : Cpn} {on tq wi : Int} (hm : mayB t = true) (hy : t.cs[k]? = some y) (hf : withB t.num tq wi = true) :
    errC t ((k : Int) + 1) on tq wi = if leadsB y.st tq = true then (if lastD t ≤ on ∧ on ≤ 1000000 then (if t.hs.length = 60 then 8 else 0) else 15) else 9 := by
  have hk : k < t.cs.length := (List.getElem?_eq_some_iff.1 hy).1
  unfold errC
  rw [if_pos ⟨hm, by omega, by omega, hf⟩, show ((k : Int) + 1).toNat - 1 = k by omega, hy]
theorem chg_ok {t : Tk} {k : Nat} {y : Cpn} {on tq wi : Int} (hy : t.cs[k]? = some y) :
    chg t ((k : Int) + 1) on tq wi = ⟨t.num, t.loc, t.iss, t.cs.set k (chgC y tq wi), t.ts, t.prev, t.org, t.fst, t.vou, t.posts, t.hs ++ [⟨on, (k : Int) + 1, y.st, tq⟩]⟩ := by
  unfold chg
  rw [show ((k : Int) + 1).toNat - 1 = k by omega, hy]
end Tkt

section
variable {α : Type} {enc : α → List Value} {n : Nat}
end
end Go.Proofs.Ytadabjkhiaidcaa
end

section
set_option linter.unusedVariables false
set_option linter.unusedSimpArgs false
namespace Go.Proofs.Ytadabjkhiaidcaa
open Go.RowKit

section
variable {P : Program} {ops : Array Oper} {Q : Exit → Act → World → Prop} {md : Region.Mode} {C : World → Prop} {s0 : Nat}
end
theorem wnum_fit {l : List UInt8} {N s : Nat} (hs : s = 1 ∨ s = 2 ∨ s = 4 ∨ s = 8) (hN : N < 256 ^ s) : Wire.wNum (some l) N (s : Int) = some (l ++ Wire.be N s) := by
  rw [wnum_at (by rcases hs with rfl | rfl | rfl | rfl <;> rfl), if_pos (by simpa using hN)]
  rfl

end Go.Proofs.Ytadabjkhiaidcaa
end
