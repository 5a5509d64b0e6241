/- Contracts: a cursor beside a box and a result; the references' flight taken (couponref16.takeFlight), mail of bytes (MailOf). -/
import Derived.Test.YtbmphlpmipkpcaaGreatRma41
import Derived.Test.YtbmphlpmipkpcaaGreatRma5
import Derived.Test.YtbmphlpmipkpcaaGreatRma47

set_option linter.unusedVariables false
set_option linter.unusedSimpArgs false
namespace Go.Proofs.YtbmphlpmipkpcaaGreat
open Go.RowKit

theorem only_grown {g : Nat} {w w' : World} (h : Only g w w') : w.grownBy w' (some g) := ⟨h.os, h.tape, h.output, h.size, fun k hk hne => h.block k hk (fun e => hne (by rw [e]))⟩
theorem grown_trans {r : Option Nat} {a b c : World} (h : a.grownBy b r) (k : b.grownBy c r) : a.grownBy c r := ⟨k.os.trans h.os, k.tape.trans h.tape, k.output.trans h.output, Nat.le_trans h.size k.size, fun i hi hne => (k.block i (Nat.lt_of_lt_of_le hi h.size) hne).trans (h.block i hi hne)⟩
theorem IsC.onlyX {w w' : World} {base g k : Nat} {st : Option (List UInt8)} (h : IsC w base g st) (hne : g ≠ k) (hk : base ≤ k) (hw : Only k w w') : IsC w' base g st := by
  have hlt := h.lt
  obtain ⟨hb, v, b, bad, h1, h2, h3⟩ := h
  exact ⟨hb, v, b, bad, (hw.block g hlt.2 hne).trans h1, fun W hW => h2 W ((only_below hw hk (by omega)).trans hW), h3⟩
theorem IsC.typX {w : World} {base g : Nat} {st : Option (List UInt8)} (h : IsC w base g st) : ∃ cs, w.heap[g]? = some (.cells cs 111 (0, 0)) := by
  obtain ⟨hb, v, b, bad, h1, -⟩ := h
  exact ⟨_, h1⟩
/-- a cursor, a box of type T, and a zero result of it -/
structure CF (T : TypeId) (zs : Array Value) (base : Nat) (w W : World) (g gt gr : Nat) (st : Option (List UInt8)) (tk : Array Value) : Prop where
  c : IsC W base g st
  t : W.heap[gt]? = some (.cells tk T (0, 0))
  z : W.heap[gr]? = some (.cells zs T (0, 0))
  b : w.grownBy W (some g)
  ne : gt ≠ gr
  lo : w.heap.size ≤ gt
  lz : w.heap.size ≤ gr
  bl : base ≤ w.heap.size
  cu : 111 ≠ T
section
variable {T : TypeId} {zs : Array Value} {base : Nat} {w W : World} {g gt gr : Nat} {st : Option (List UInt8)} {tk : Array Value}
theorem CF.gne (h : CF T zs base w W g gt gr st tk) : g ≠ gt ∧ g ≠ gr := by
  obtain ⟨cs, hc⟩ := h.c.typX
  exact ⟨row_neT hc h.t h.cu, row_neT hc h.z h.cu⟩
theorem CF.step {W' : World} {st' : Option (List UInt8)} (h : CF T zs base w W g gt gr st tk) (hs : CStep W W' base g st') : CF T zs base w W' g gt gr st' tk :=
  ⟨hs.1, (hs.2.1.block _ (block_lt h.t) (Ne.symm h.gne.1)).trans h.t, (hs.2.1.block _ (block_lt h.z) (Ne.symm h.gne.2)).trans h.z, grown_trans h.b (only_grown hs.2.1), h.ne, h.lo, h.lz, h.bl, h.cu⟩
theorem CF.put (h : CF T zs base w W g gt gr st tk) (o : Nat) (cs : List Value) {tk' : Array Value} (ht : (W.setCells gt o cs).heap[gt]? = some (.cells tk' T (0, 0))) : CF T zs base w (W.setCells gt o cs) g gt gr st tk' := by
  have ho := (Only.refl gt W).setCells o cs
  exact ⟨h.c.onlyX h.gne.1 (Nat.le_trans h.bl h.lo) ho, ht, (ho.block gr (block_lt h.z) (Ne.symm h.ne)).trans h.z, ⟨ho.os.trans h.b.os, ho.tape.trans h.b.tape, ho.output.trans h.b.output, Nat.le_trans h.b.size ho.size, fun k hk hne => (ho.block k (Nat.lt_of_lt_of_le hk h.b.size) (by have := h.lo; omega)).trans (h.b.block k hk hne)⟩, h.ne, h.lo, h.lz, h.bl, h.cu⟩
theorem CF.set (h : CF T zs base w W g gt gr st tk) (o : Nat) (v : Value) : CF T zs base w (W.setCell ⟨gt, o, none⟩ v) g gt gr st (tk.setIfInBounds o v) := by
  have ho := (Only.refl gt W).setCell o v
  exact ⟨h.c.onlyX h.gne.1 (Nat.le_trans h.bl h.lo) ho, heap_setCell_same _ _ _ _ _ _ h.t, (ho.block gr (block_lt h.z) (Ne.symm h.ne)).trans h.z, ⟨ho.os.trans h.b.os, ho.tape.trans h.b.tape, ho.output.trans h.b.output, Nat.le_trans h.b.size ho.size, fun k hk hne => (ho.block k (Nat.lt_of_lt_of_le hk h.b.size) (by have := h.lo; omega)).trans (h.b.block k hk hne)⟩, h.ne, h.lo, h.lz, h.bl, h.cu⟩
theorem CF.grown {W' : World} {st' : Option (List UInt8)} (h : CF T zs base w W g gt gr st tk) (hg : W.grownBy W' (some g)) (hc : IsC W' base g st') : CF T zs base w W' g gt gr st' tk :=
  ⟨hc, (hg.block _ (block_lt h.t) (fun e => h.gne.1 (Option.some.inj e).symm)).trans h.t, (hg.block _ (block_lt h.z) (fun e => h.gne.2 (Option.some.inj e).symm)).trans h.z, grown_trans h.b hg, h.ne, h.lo, h.lz, h.bl, h.cu⟩
theorem CF.belowW {W' : World} (h : CF T zs base w W g gt gr st tk) (hb : Below W.heap.size W W') : CF T zs base w W' g gt gr st tk :=
  ⟨h.c.below hb, (hb.block _ (block_lt h.t)).trans h.t, (hb.block _ (block_lt h.z)).trans h.z, ⟨hb.os.trans h.b.os, hb.tape.trans h.b.tape, hb.output.trans h.b.output, Nat.le_trans h.b.size hb.size, fun k hk hne => (hb.block k (Nat.lt_of_lt_of_le hk h.b.size)).trans (h.b.block k hk hne)⟩, h.ne, h.lo, h.lz, h.bl, h.cu⟩
theorem CF.below (h : CF T zs base w W g gt gr st tk) (hg : w.heap.size ≤ g) : Below w.heap.size w W :=
  ⟨h.b.os, h.b.tape, h.b.output, h.b.size, fun k hk => h.b.block k hk (fun e => by have := Option.some.inj e; omega)⟩
end
theorem cpl_execLoad (ρ : Operand → Value) (dst : Option Tmp) (x : Operand) (ty : TypeId) (pos : String) (after : Array Edge) (guard : Option (Nat × Bool)) :
    execOp ρ { dst, op := .load 33 x, type := ty, pos, after, guard } = recLoad 33 (ρ x) := rfl
theorem cpl_load (w : World) (b o : Nat) (h : okL 6 w b o) : (recLoad 33 (.pointer (some ⟨b, o, none⟩))).run Tryz.prog w = .ok (.value (.agg (loL 6 w b o).toArray)) w := by
  unfold recLoad
  rw [Sem.run_bind, run_load_rec 6 Tryz.underlying33 rfl (by kernel_rfl) w b o h]
  rfl
theorem cpl_execStore (ρ : Operand → Value) (dst : Option Tmp) (x y : Operand) (ty : TypeId) (pos : String) (after : Array Edge) (guard : Option (Nat × Bool)) :
    execOp ρ { dst, op := .store 33 x y, type := ty, pos, after, guard } = recStore 33 (ρ x) (ρ y) := rfl
theorem cpl_store (w : World) (b o : Nat) (cs : List Value) (ht : w.there b o 6) (hn : cs.length = 6) (h1 : cs.all (·.oneCell') = true) :
    (recStore 33 (.pointer (some ⟨b, o, none⟩)) (.agg cs.toArray)).run Tryz.prog w = .ok .skip (w.setCells b o cs) := by
  unfold recStore
  rw [Sem.run_bind, run_store_rec 6 (by kernel_rfl) w b o cs ht hn h1]
  rfl
theorem loadCp {w : World} {g : Nat} {cs : Array Value} {e : TypeId} (h : w.heap[g]? = some (.cells cs e (0, 0))) (hs : cs.size = 6) : (loadVar 33 ⟨g, 0, none⟩).run Tryz.prog w = .ok (.agg cs) w := by
  refine run_loadVar_row w g e 33 cs (0, 0) _ h Tryz.underlying33 rfl ?_
  rw [hs]; kernel_rfl
attribute [local go_sem ↓] cpl_execLoad cpl_execStore

attribute [local go_sem] cpl_load cpl_store loL_drew okL_drew

set_option maxRecDepth 8000 in
set_option maxHeartbeats 4000000 in
theorem takeFlight_any (base g : Nat) (st : Option (List UInt8)) (w : World) (h : IsC w base g st) (hbl : base ≤ w.heap.size) :
    Calls Tryz.prog 62 #[.pointer (some ⟨g, 0, none⟩)] w fun e w' => e = .returned (.agg #[.int .i64 (rNumV st 2 : Int), .int .i64 (rNumV (rNumS st 2) 4 : Int), .int .i64 (wrap64 (rNumV (rNumS (rNumS st 2) 4) 8 : Int)), .int .i64 0, .int .i64 0, .int .u64 0]) ∧ IsC w' base g (rNumS (rNumS (rNumS st 2) 4) 8) ∧ w.grownBy w' (some g) := by
  have l1 := rNumV_lt st 2
  have l2 := rNumV_lt (rNumS st 2) 4
  have HN1 := Lib.hid (fun W hW => cTake_any base g st 2 W hW)
  have HN2 := Lib.hid (fun W hW => cTake_any base g (rNumS st 2) 4 W hW)
  have HN3 := Lib.hid (fun W hW => cTake_any base g (rNumS (rNumS st 2) 4) 8 W hW)
  generalize rNumV (rNumS (rNumS st 2) 4) 8 = N3 at *
  generalize rNumS (rNumS (rNumS st 2) 4) 8 = s3 at *
  generalize rNumV (rNumS st 2) 4 = N2 at *
  generalize rNumS (rNumS st 2) 4 = s2 at *
  generalize rNumV st 2 = N1 at *
  generalize rNumS st 2 = s1 at *
  have h1 : N1 < 65536 := l1
  have h2 : N2 < 4294967296 := l2
  have z1 : IntKind.i64.wrap (N1 : Int) = (N1 : Int) := by rw [IntKind.wrap_i64]; omega
  have z2 : IntKind.i64.wrap (N2 : Int) = (N2 : Int) := by rw [IntKind.wrap_i64]; omega
  obtain ⟨V3, hV3⟩ : ∃ V, V = wrap64 (N3 : Int) := ⟨_, rfl⟩
  rw [← hV3]
  have z3 : IntKind.i64.wrap (N3 : Int) = V3 := by rw [hV3, IntKind.wrap_i64]; unfold wrap64; omega
  clear hV3 l1 l2
  have hb1 := (Below.refl w.heap.size w).alloc (Nat.le_refl _) (.cells #[.int .i64 0, .int .i64 0, .int .i64 0, .int .i64 0, .int .i64 0, .int .u64 0] 33)
  have HC0 := Lib.hid (h.below hb1)
  have HZ0 := Lib.hid (new_rowW w (.cells #[.int .i64 0, .int .i64 0, .int .i64 0, .int .i64 0, .int .i64 0, .int .u64 0] 33) _ rfl)
  have HG0 : Hid (w.grownBy (w.alloc (.cells #[.int .i64 0, .int .i64 0, .int .i64 0, .int .i64 0, .int .i64 0, .int .u64 0] 33)) (some g)) := Lib.hid ⟨hb1.os, hb1.tape, hb1.output, hb1.size, fun k hk _ => hb1.block k hk⟩
  have HGL := Lib.hid h.lt
  clear h hb1
  go_enter Tryz.func62, Tryz.ntmps62
  go_wp2_with fail
  generalize w.alloc (.cells #[.int .i64 0, .int .i64 0, .int .i64 0, .int .i64 0, .int .i64 0, .int .u64 0] 33) = w0 at *
  refine (HN1.out _ HC0.out).mono ?_
  rintro e w1 ⟨rfl, hs1⟩
  have th8 := there_newT (w := w1) (zs := [.int .i64 0, .int .i64 0, .int .i64 0, .int .i64 0, .int .i64 0, .int .u64 0]) (e := 33) (n := 6) rfl
  have h8n : ([.int .i64 (N1 : Int), .int .i64 0, .int .i64 0, .int .i64 0, .int .i64 0, .int .u64 0] : List Value).length = 6 := rfl
  have h8c : ([.int .i64 (N1 : Int), .int .i64 0, .int .i64 0, .int .i64 0, .int .i64 0, .int .u64 0] : List Value).all (·.oneCell') = true := rfl
  have HZ1 := Lib.hid ((hs1.2.1.block _ (block_lt HZ0.out) (by have := HGL.out; omega)).trans HZ0.out)
  have HG1 := Lib.hid (grown_trans HG0.out (only_grown hs1.2.1))
  have HS1 := Lib.hid hs1
  clear hs1 HC0 HZ0 HG0
  go_upto_region 2 with fail
  have HP := Lib.hid (putRec (W := w1) (e := 33) (zs := [.int .i64 0, .int .i64 0, .int .i64 0, .int .i64 0, .int .i64 0, .int .u64 0]) (cs := [.int .i64 (N1 : Int), .int .i64 0, .int .i64 0, .int .i64 0, .int .i64 0, .int .u64 0]) rfl)
  have HF : Hid (CF 33 #[.int .i64 0, .int .i64 0, .int .i64 0, .int .i64 0, .int .i64 0, .int .u64 0] base w ((w1.alloc (.cells ([.int .i64 0, .int .i64 0, .int .i64 0, .int .i64 0, .int .i64 0, .int .u64 0] : List Value).toArray 33 (0, 0))).setCells w1.heap.size 0 [.int .i64 (N1 : Int), .int .i64 0, .int .i64 0, .int .i64 0, .int .i64 0, .int .u64 0]) g w1.heap.size w.heap.size s1 #[.int .i64 (N1 : Int), .int .i64 0, .int .i64 0, .int .i64 0, .int .i64 0, .int .u64 0]) :=
    Lib.hid ⟨HS1.out.1.below HP.out.2, HP.out.1, (HP.out.2.block _ (block_lt HZ1.out)).trans HZ1.out, grown_trans HG1.out ⟨HP.out.2.os, HP.out.2.tape, HP.out.2.output, HP.out.2.size, fun k hk _ => HP.out.2.block k hk⟩, by have := block_lt HZ1.out; omega, HG1.out.size, Nat.le_refl _, hbl, by decide⟩
  clear HP HS1 HZ1 HG1 th8 h8n h8c
  generalize (w1.alloc (.cells ([.int .i64 0, .int .i64 0, .int .i64 0, .int .i64 0, .int .i64 0, .int .u64 0] : List Value).toArray 33 (0, 0))).setCells w1.heap.size 0 [.int .i64 (N1 : Int), .int .i64 0, .int .i64 0, .int .i64 0, .int .i64 0, .int .u64 0] = w2 at *
  generalize w1.heap.size = gt at *
  go_wp2_with fail
  refine (HN2.out _ HF.out.c).mono ?_
  rintro e w3 ⟨rfl, hs⟩
  replace HF := Lib.hid (HF.out.step hs)
  clear hs
  have hcb := fun j => cell_of_row w3 gt j _ _ _ HF.out.t
  have hfb := fun j => frozen_of_row w3 gt j _ _ HF.out.t
  go_upto_region 3 with fail
  clear hcb hfb
  replace HF := Lib.hid (HF.out.set 1 (.int .i64 (N2 : Int)))
  generalize w3.setCell ⟨gt, 1, none⟩ (.int .i64 (N2 : Int)) = w4 at *
  go_wp2_with fail
  refine (HN3.out _ HF.out.c).mono ?_
  rintro e w5 ⟨rfl, hs⟩
  replace HF := Lib.hid (HF.out.step hs)
  clear hs
  have hcb := fun j => cell_of_row w5 gt j _ _ _ HF.out.t
  have hfb := fun j => frozen_of_row w5 gt j _ _ HF.out.t
  go_upto_region 4 with fail
  clear hcb hfb
  replace HF := Lib.hid (HF.out.set 2 (.int .i64 V3))
  generalize w5.setCell ⟨gt, 2, none⟩ (.int .i64 V3) = w6 at *
  have HF : Hid (CF 33 #[.int .i64 0, .int .i64 0, .int .i64 0, .int .i64 0, .int .i64 0, .int .u64 0] base w w6 g gt w.heap.size s3 #[.int .i64 (N1 : Int), .int .i64 (N2 : Int), .int .i64 V3, .int .i64 0, .int .i64 0, .int .u64 0]) := Lib.hid HF.out
  have th := there_rowT (n := 6) HF.out.z rfl
  have h1n : ([.int .i64 (N1 : Int), .int .i64 (N2 : Int), .int .i64 V3, .int .i64 0, .int .i64 0, .int .u64 0] : List Value).length = 6 := rfl
  have h1c : ([.int .i64 (N1 : Int), .int .i64 (N2 : Int), .int .i64 V3, .int .i64 0, .int .i64 0, .int .u64 0] : List Value).all (·.oneCell') = true := rfl
  obtain ⟨f1, f2⟩ := row_loT 6 HF.out.t rfl rfl
  go_wp2_with fail
  have hr6 := setCells_rowT (g := w.heap.size) (cs := [.int .i64 (N1 : Int), .int .i64 (N2 : Int), .int .i64 V3, .int .i64 0, .int .i64 0, .int .u64 0]) HF.out.z rfl
  (try simp only [Exit.inBlock, Exit.then])
  refine bodyPost_ret (results_cellT rfl _ _ w.heap.size rfl (loadCp hr6 rfl)) rfl ?_
  have ho := (Only.refl w.heap.size w6).setCells 0 [.int .i64 (N1 : Int), .int .i64 (N2 : Int), .int .i64 V3, .int .i64 0, .int .i64 0, .int .u64 0]
  exact ⟨rfl, HF.out.c.onlyX HF.out.gne.2 HF.out.bl ho, ⟨ho.os.trans HF.out.b.os, ho.tape.trans HF.out.b.tape, ho.output.trans HF.out.b.output, Nat.le_trans HF.out.b.size ho.size, fun k hk hne => (ho.block k (Nat.lt_of_lt_of_le hk HF.out.b.size) (by omega)).trans (HF.out.b.block k hk hne)⟩⟩
end Go.Proofs.YtbmphlpmipkpcaaGreat
