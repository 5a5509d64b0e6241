/- Contracts: how a ticket's parts are put: amounts, statuses, texts, lists. -/
import Derived.Test.YtbmphlpmipkpcaaGreatRnm20

set_option linter.unusedVariables false
set_option linter.unusedSimpArgs false
namespace Go.Proofs.YtbmphlpmipkpcaaGreat
open Go.RowKit

set_option maxRecDepth 4000 in
set_option maxHeartbeats 2000000 in
theorem wmoney_any (base bw k : Nat) (l : List UInt8) (N : Nat) (hN : N < 9223372036854775808) (hk : k + 9 ≤ 536870912) (w : World) (h : IsW w base bw k (some l)) (b o : Nat) (cs : Array Value) (ty : TypeId) (hrow : w.heap[b]? = some (.cells cs ty (0, 0))) (hty : ty ∉ WT) (hc : cs[o]? = some (.int .i64 (N : Int))) :
    Calls Tryz.prog 179 #[.agg #[.pointer (some ⟨bw, 0, none⟩), .pointer none], .pointer (some ⟨b, o, none⟩)] w fun e w' => e = .returned (.tuple #[]) ∧ WStep w w' base bw (k + 9) (some (l ++ Wire.be N 8)) := by
  have hwu : IntKind.u64.wrap (N : Int) = (N : Int) := by rw [IntKind.wrap_u64]; omega
  have hwi : IntKind.i64.wrap (N : Int) = (N : Int) := by rw [IntKind.wrap_i64]; omega
  have hb1 := (((Below.refl w.heap.size w).alloc (Nat.le_refl _) (.cells #[.pointer (some ⟨bw, 0, none⟩), .pointer none] 167 (0, 0))).alloc (by simp) (.cells #[.int .u64 (N : Int)] 22 (0, 0)))
  have HB1 := Lib.hid hb1
  have HBL := Lib.hid h.lt
  have HW1 := Lib.hid (h.below hb1)
  have HR1 : Hid (((w.alloc (.cells #[.pointer (some ⟨bw, 0, none⟩), .pointer none] 167 (0, 0))).alloc (.cells #[.int .u64 (N : Int)] 22 (0, 0))).heap[w.heap.size]? = some (.cells #[.pointer (some ⟨bw, 0, none⟩), .pointer none] 167 (0, 0))) := Lib.hid (row_after (new_rowW _ _ _ rfl))
  have HM1 : Hid (((w.alloc (.cells #[.pointer (some ⟨bw, 0, none⟩), .pointer none] 167 (0, 0))).alloc (.cells #[.int .u64 (N : Int)] 22 (0, 0))).heap[w.heap.size + 1]? = some (.cells #[.int .u64 (N : Int)] 22 (0, 0))) := Lib.hid (new_rowW _ _ _ (by simp))
  have HN1 : Hid (((w.alloc (.cells #[.pointer (some ⟨bw, 0, none⟩), .pointer none] 167 (0, 0))).alloc (.cells #[.int .u64 (N : Int)] 22 (0, 0))).heap[b]? = some (.cells cs ty (0, 0))) := Lib.hid (row_after (row_after hrow))
  have c0 : w.cell? ⟨b, o, none⟩ = some (.int .i64 (N : Int)) := (cell_of_row _ _ o _ _ _ hrow).trans hc
  have hbl := block_lt hrow
  have HTY := Lib.hid hty; have HCC := Lib.hid hc; have HNN := Lib.hid hN
  clear hb1 hrow hc h hty
  go_enter Tryz.func179, Tryz.ntmps179
  go_upto_region 2 with fail
  generalize ((w.alloc (.cells #[.pointer (some ⟨bw, 0, none⟩), .pointer none] 167 (0, 0))).alloc (.cells #[.int .u64 (N : Int)] 22 (0, 0))) = w1 at *
  clear c0 hbl
  have hcw := fun j => cell_of_row w1 w.heap.size j _ _ _ HR1.out
  go_wp2_with fail
  refine (wlong_any base bw k l N 8 (by decide) (by omega) hk _ HW1.out (w.heap.size + 1) 0 _ _ HM1.out rfl).mono ?_
  rintro e w2 ⟨rfl, hst⟩
  have HM2 := Lib.hid (hst.2.2.row HM1.out (by decide))
  have HN2 := Lib.hid (hst.2.2.row HN1.out HTY.out)
  have HST := Lib.hid hst
  clear hst hcw
  have km := fun j => cell_of_row w2 (w.heap.size + 1) j _ _ _ HM2.out
  have kn : w2.cell? ⟨b, o, none⟩ = some (.int .i64 (N : Int)) := (cell_of_row _ _ o _ _ _ HN2.out).trans HCC.out
  have kf := fun j => frozen_of_row w2 b j _ _ HN2.out
  have HID := Lib.hid (setCell_id HN2.out HCC.out)
  go_wp2
  go_end0
  refine ⟨rfl, ?_⟩
  rw [HID.out]
  exact WStep.pre HB1.out (by have := HBL.out; omega) HST.out

set_option maxRecDepth 4000 in
set_option maxHeartbeats 2000000 in
theorem wstatus_any (base bw k : Nat) (l : List UInt8) (N : Nat) (hN : N < 256) (hk : k + 9 ≤ 536870912) (w : World) (h : IsW w base bw k (some l)) (b o : Nat) (cs : Array Value) (ty : TypeId) (hrow : w.heap[b]? = some (.cells cs ty (0, 0))) (hty : ty ∉ WT) (hc : cs[o]? = some (.int .i64 (N : Int))) :
    Calls Tryz.prog 181 #[.agg #[.pointer (some ⟨bw, 0, none⟩), .pointer none], .pointer (some ⟨b, o, none⟩)] w fun e w' => e = .returned (.tuple #[]) ∧ WStep w w' base bw (k + 9) (some (l ++ Wire.be N 1)) := by
  have hwu : IntKind.u64.wrap (N : Int) = (N : Int) := by rw [IntKind.wrap_u64]; omega
  have hwi : IntKind.i64.wrap (N : Int) = (N : Int) := by rw [IntKind.wrap_i64]; omega
  have hb1 := (((Below.refl w.heap.size w).alloc (Nat.le_refl _) (.cells #[.pointer (some ⟨bw, 0, none⟩), .pointer none] 167 (0, 0))).alloc (by simp) (.cells #[.int .i64 (N : Int)] 3 (0, 0)))
  have HB1 := Lib.hid hb1
  have HBL := Lib.hid h.lt
  have HW1 := Lib.hid (h.below hb1)
  have HR1 : Hid (((w.alloc (.cells #[.pointer (some ⟨bw, 0, none⟩), .pointer none] 167 (0, 0))).alloc (.cells #[.int .i64 (N : Int)] 3 (0, 0))).heap[w.heap.size]? = some (.cells #[.pointer (some ⟨bw, 0, none⟩), .pointer none] 167 (0, 0))) := Lib.hid (row_after (new_rowW _ _ _ rfl))
  have HM1 : Hid (((w.alloc (.cells #[.pointer (some ⟨bw, 0, none⟩), .pointer none] 167 (0, 0))).alloc (.cells #[.int .i64 (N : Int)] 3 (0, 0))).heap[w.heap.size + 1]? = some (.cells #[.int .i64 (N : Int)] 3 (0, 0))) := Lib.hid (new_rowW _ _ _ (by simp))
  have HN1 : Hid (((w.alloc (.cells #[.pointer (some ⟨bw, 0, none⟩), .pointer none] 167 (0, 0))).alloc (.cells #[.int .i64 (N : Int)] 3 (0, 0))).heap[b]? = some (.cells cs ty (0, 0))) := Lib.hid (row_after (row_after hrow))
  have c0 : w.cell? ⟨b, o, none⟩ = some (.int .i64 (N : Int)) := (cell_of_row _ _ o _ _ _ hrow).trans hc
  have hbl := block_lt hrow
  have HTY := Lib.hid hty; have HCC := Lib.hid hc; have HNN := Lib.hid hN
  clear hb1 hrow hc h hty
  go_enter Tryz.func181, Tryz.ntmps181
  go_upto_region 2 with fail
  generalize ((w.alloc (.cells #[.pointer (some ⟨bw, 0, none⟩), .pointer none] 167 (0, 0))).alloc (.cells #[.int .i64 (N : Int)] 3 (0, 0))) = w1 at *
  clear c0 hbl
  have hcw := fun j => cell_of_row w1 w.heap.size j _ _ _ HR1.out
  go_wp2_with fail
  refine (wwhole_any base bw k l N 1 (by decide) (by omega) (by omega) hk _ HW1.out (w.heap.size + 1) 0 _ _ HM1.out (by decide) rfl).mono ?_
  rintro e w2 ⟨rfl, hst⟩
  have HM2 := Lib.hid (hst.2.2.row HM1.out (by decide))
  have HN2 := Lib.hid (hst.2.2.row HN1.out HTY.out)
  have HST := Lib.hid hst
  clear hst hcw
  have km := fun j => cell_of_row w2 (w.heap.size + 1) j _ _ _ HM2.out
  have kn : w2.cell? ⟨b, o, none⟩ = some (.int .i64 (N : Int)) := (cell_of_row _ _ o _ _ _ HN2.out).trans HCC.out
  have kf := fun j => frozen_of_row w2 b j _ _ HN2.out
  have HID := Lib.hid (setCell_id HN2.out HCC.out)
  go_wp2
  go_end0
  refine ⟨rfl, ?_⟩
  rw [HID.out]
  exact WStep.pre HB1.out (by have := HBL.out; omega) HST.out

set_option maxRecDepth 4000 in
set_option maxHeartbeats 2000000 in
theorem wtextT_any (base bw k : Nat) (l : List UInt8) (S : ByteArray) (hS : S.size ≤ 1000) (hk : k + 1 + S.size ≤ 536870912) (w : World) (h : IsW w base bw k (some l)) (b o : Nat) (cs : Array Value) (ty : TypeId) (hrow : w.heap[b]? = some (.cells cs ty (0, 0))) (hty : ty ∉ WT) (hc : cs[o]? = some (.string S)) :
    Calls Tryz.prog 177 #[.agg #[.pointer (some ⟨bw, 0, none⟩), .pointer none], .pointer (some ⟨b, o, none⟩)] w fun e w' => e = .returned (.tuple #[]) ∧ WStep w w' base bw (k + 1 + S.size) (some (l ++ S.data.toList)) := by
  have HBL := Lib.hid h.lt
  have hb1 := ((Below.refl w.heap.size w).alloc (Nat.le_refl _) (.cells #[.pointer (some ⟨bw, 0, none⟩), .pointer none] 167 (0, 0)))
  have HB1 := Lib.hid hb1.drew
  have HW1 := Lib.hid (h.below hb1.drew)
  have HR1 : Hid (((w.alloc (.cells #[.pointer (some ⟨bw, 0, none⟩), .pointer none] 167 (0, 0))).drew).heap[w.heap.size]? = some (.cells #[.pointer (some ⟨bw, 0, none⟩), .pointer none] 167 (0, 0))) := Lib.hid (new_rowW _ _ _ rfl)
  have HN1 : Hid (((w.alloc (.cells #[.pointer (some ⟨bw, 0, none⟩), .pointer none] 167 (0, 0))).drew).heap[b]? = some (.cells cs ty (0, 0))) := Lib.hid (row_after hrow)
  have HCC : Hid (∀ W : World, W.heap[w.heap.size]? = some (.cells #[.pointer (some ⟨bw, 0, none⟩), .pointer none] 167 (0, 0)) → W.heap[b]? = some (.cells cs ty (0, 0)) → W.cell? ⟨w.heap.size, 0, none⟩ = some (.pointer (some ⟨bw, 0, none⟩)) ∧ W.cell? ⟨b, o, none⟩ = some (.string S)) := Lib.hid (fun W h1 h2 => ⟨cell_of_row _ _ 0 _ _ _ h1, (cell_of_row _ _ o _ _ _ h2).trans hc⟩)
  have hlen : S.data.toList.length = S.size := by show S.data.toList.length = S.data.size; simp
  have HLEN := Lib.hid hlen
  clear hb1 hrow hc h hlen hty
  go_enter Tryz.func177, Tryz.ntmps177
  go_wp2_with fail
  refine wp_region_G (C := fun W => W.cell? ⟨w.heap.size, 0, none⟩ = some (.pointer (some ⟨bw, 0, none⟩)) ∧ W.cell? ⟨b, o, none⟩ = some (.string S)) (s0 := 6) (by kernel_rfl) ?_
  generalize (w.alloc (.cells #[.pointer (some ⟨bw, 0, none⟩), .pointer none] 167 (0, 0))).drew = w1 at *
  have hHeld := HCC.out _ HR1.out HN1.out
  refine wpAnyG_takeU (i := 0) (oi := { dst := some 7, op := Op.fieldAddr 167 (Operand.tmp 2) 0, type := 0, pos := "ticket.go:149", after := #[], guard := none }) (v := ?_) rfl (by kernel_rfl) (by kernel_rfl) (by kernel_rfl) (by decide) (fun _ _ _ h => h) (Or.inl ⟨by rfl, ?_⟩) (by first | exact .inl (by assumption) | exact .inr rfl) ?_
  rotate_left
  · intro w hSw; go_simp; try with_reducible rfl
  try simp only [Act.put, List.setIfInBounds_toArray, List.set_cons_zero, List.set_cons_succ]
  refine wpAnyG_take (i := 1) (oi := { dst := some 8, op := Op.load 95 (Operand.tmp 7), type := 95, pos := "ticket.go:149", after := #[{ on := 0, ground := Ground.data }], guard := none }) (v := ?_) rfl (by kernel_rfl) (by kernel_rfl) (by kernel_rfl) (by decide) (by kernel_rfl) (by kernel_rfl) (fun _ _ _ h => h) (Or.inl ⟨by rfl, ?_⟩) (by assumption) ?_
  rotate_left
  · intro w hSw; (try dsimp only at hSw); go_simp; try with_reducible rfl
  try simp only [Act.put, List.setIfInBounds_toArray, List.set_cons_zero, List.set_cons_succ]
  refine wpAnyG_takeU (i := 2) (oi := { dst := some 9, op := Op.move (Operand.tmp 1), type := 233, pos := "ticket.go:149", after := #[], guard := none }) (v := ?_) rfl (by kernel_rfl) (by kernel_rfl) (by kernel_rfl) (by decide) (fun _ _ _ h => h) (Or.inl ⟨by rfl, ?_⟩) (by first | exact .inl (by assumption) | exact .inr rfl) ?_
  rotate_left
  · intro w hSw; go_simp; try with_reducible rfl
  try simp only [Act.put, List.setIfInBounds_toArray, List.set_cons_zero, List.set_cons_succ]
  refine wpAnyG_takeU (i := 3) (oi := { dst := some 10, op := Op.nilCheck (Operand.tmp 9), type := 0, pos := "ticket.go:149", after := #[{ on := 2, ground := Ground.data }], guard := none }) (v := ?_) rfl (by kernel_rfl) (by kernel_rfl) (by kernel_rfl) (by decide) (fun _ _ _ h => h) (Or.inl ⟨by rfl, ?_⟩) (by first | exact .inl (by assumption) | exact .inr rfl) ?_
  rotate_left
  · intro w hSw; go_simp; try with_reducible rfl
  try simp only [Act.put, List.setIfInBounds_toArray, List.set_cons_zero, List.set_cons_succ]
  refine wpAnyG_takeM (i := 4) (oi := { dst := some 11, op := Op.load 9 (Operand.tmp 10), type := 9, pos := "ticket.go:149", after := #[{ on := 3, ground := Ground.data }], guard := none }) (v := ?_) (ms := [5, 6]) rfl (by kernel_rfl) (by kernel_rfl) (by kernel_rfl) (by kernel_rfl) (by kernel_rfl) (fun _ _ _ h => h) (Or.inl ⟨by rfl, ?_⟩) (by assumption) ?_
  rotate_left
  · intro w hSw; (try dsimp only at hSw); go_simp; try with_reducible rfl
  try simp only [Act.put, List.setIfInBounds_toArray, List.set_cons_zero, List.set_cons_succ]
  obtain ⟨v, w2, hcv, hbk, hbc, q, cp, rfl⟩ := conv_text w1 S (by unfold maxLen; omega) base
  have HBK := Lib.hid hbk; have HBC := Lib.hid hbc
  have HR2 := Lib.hid ((hbc.block _ (block_lt HR1.out)).trans HR1.out)
  have HN2 := Lib.hid ((hbc.block _ (block_lt HN1.out)).trans HN1.out)
  clear hbk hbc
  refine wpAnyG_one (i := 5) (o := { dst := some 12, op := Op.convert 9 47 (Operand.tmp 11), type := 47, pos := "ticket.go:149", after := #[{ on := 4, ground := Ground.data }], guard := none }) (by kernel_rfl) rfl (fun K hK => ?_)
  go_simp
  refine hK.out _ _ (.inl (HCC.out _ HR2.out HN2.out)) ?_
  clear hK K
  try simp only [Act.put, List.setIfInBounds_toArray, List.set_cons_zero, List.set_cons_succ]
  clear hcv
  refine wpAnyG_one (i := 6) (o := { dst := some 13, op := Op.call { callee := Callee.value (Operand.func 90), args := #[Operand.tmp 8, Operand.tmp 12], argTypes := #[95, 47] }, type := 95, pos := "ticket.go:149", after := #[{ on := 1, ground := Ground.data }, { on := 5, ground := Ground.data }], guard := none }) (by kernel_rfl) rfl (fun K hK => ?_)
  go_simp
  go_at_call 90
  refine (wbytes_any base bw k (some l) _ _ (by rw [HLEN.out]; exact hk) _ (HW1.out.below HBC.out) HBK.out.1).mono ?_
  rintro e w3 ⟨rfl, hst⟩
  rw [HLEN.out] at hst
  have HST := Lib.hid hst
  clear hst
  refine hK.out _ _ (.inr rfl) ?_
  clear hK K
  try simp only [Act.put, List.setIfInBounds_toArray, List.set_cons_zero, List.set_cons_succ]
  refine wpAnyG_done (by kernel_rfl) ?_ _
  clear hHeld HCC
  go_wp2
  refine bodyPost_ret (results_none rfl _ _ _) rfl ?_
  exact ⟨rfl, WStep.pre (HB1.out.trans (HBC.out.mono HB1.out.size)) (by have := HBL.out; omega) HST.out⟩

/-- a place of a number -/
structure Pn where
  b : Nat
  o : Nat
  N : Nat
def ptrs (ns : List Pn) : Array Value := (ns.map fun p => Value.pointer (some ⟨p.b, p.o, none⟩)).toArray
def PnOk (w : World) (p : Pn) : Prop := (∃ cs ty, w.heap[p.b]? = some (.cells cs ty (0, 0)) ∧ ty ∉ WT ∧ cs[p.o]? = some (.int .u64 (p.N : Int))) ∧ p.N < 18446744073709551616
def numsB (ns : List Pn) : List UInt8 := ns.flatMap fun p => Wire.be p.N 8
set_option maxRecDepth 4000 in
set_option maxHeartbeats 2000000 in
theorem wover_any (base bw k : Nat) (l : List UInt8) (ns : List Pn) (w : World) (hns : ∀ p ∈ ns, PnOk w p) (hlen : ns.length ≤ 3) (hk : k + 9 * ns.length ≤ 536870912) (h : IsW w base bw k (some l)) (gl c : Nat) (hc : ns.length ≤ c) (hrow : w.heap[gl]? = some (.cells (ptrs ns) 176 (0, 0))) :
    Calls Tryz.prog 175 #[.func (.func 176) #[.agg #[.pointer (some ⟨bw, 0, none⟩), .pointer none]] #[], .int .i64 8, .slice (some ⟨gl, 0, none⟩) ns.length c] w fun e w' => e = .returned (.tuple #[]) ∧ WStep w w' base bw (k + 9 * ns.length) (some (l ++ numsB ns)) := by
  obtain ⟨n, hn⟩ : ∃ n, ns.length = n := ⟨_, rfl⟩
  rw [hn] at hlen hk hc ⊢
  have HN := Lib.hid hn; have HROW := Lib.hid hrow; have HNS := Lib.hid hns; have HI := Lib.hid h
  clear hn hrow hns h
  go_enter Tryz.func175, Tryz.ntmps175
  go_wp2_with fail
  go_loopw [10] (fun i wr => ∃ j : Nat, j ≤ n ∧ i = .int .i64 j ∧ WStep w wr base bw (k + 9 * j) (some (l ++ numsB (ns.take j)))) (fun i _ => n - (intOf i).toNat)
  case atStart => exact ⟨0, Nat.zero_le _, rfl, by simpa [numsB] using WStep.refl HI.out⟩
  case round =>
    obtain ⟨j, hj, rfl, hst⟩ := hrel
    have HST := Lib.hid hst
    have HRW := Lib.hid (hst.2.2.row HROW.out (by decide))
    clear hst
    by_cases hlt : j < n
    · obtain ⟨p, hp⟩ : ∃ p, ns[j]? = some p := ⟨_, List.getElem?_eq_getElem (by have := HN.out; omega)⟩
      have HP := Lib.hid hp
      obtain ⟨⟨cs, ty, h1, h2, h3⟩, h4⟩ := HNS.out p (List.mem_of_getElem? hp)
      have H1 := Lib.hid (HST.out.2.2.row h1 h2); have H3 := Lib.hid h3; have H4 := Lib.hid h4
      have c0 : wr.cell? ⟨gl, j, none⟩ = some (.pointer (some ⟨p.b, p.o, none⟩)) := (cell_of_row _ _ j _ _ _ HRW.out).trans (by unfold ptrs; rw [List.getElem?_toArray, List.getElem?_map, hp]; rfl)
      clear hp h1 h2 h3 h4
      go_wp2_with fail
      refine (wlong_any base bw (k + 9 * j) _ p.N 8 (by decide) (by have := H4.out; omega) (by omega) _ HST.out.1 p.b p.o _ _ H1.out H3.out).mono ?_
      rintro e w2 ⟨rfl, hs2⟩
      have HS2 := Lib.hid hs2
      clear hs2 c0
      go_wp2
      go_roundw
      case rel =>
        refine ⟨j + 1, by omega, by go_num, ?_⟩
        have := WStep.trans HST.out HS2.out
        rw [List.append_assoc] at this
        have e1 : numsB (ns.take (j + 1)) = numsB (ns.take j) ++ Wire.be p.N 8 := by
          unfold numsB; rw [List.take_add_one, HP.out, List.flatMap_append]; simp
        rw [e1]
        exact this
      case measure => simp [intOf]; omega
    · obtain rfl : n = j := by omega
      go_wp2
      go_end0
      have := HST.out
      rw [List.take_of_length_le (by have := HN.out; omega)] at this
      exact ⟨rfl, this⟩

set_option maxRecDepth 4000 in
set_option maxHeartbeats 2000000 in
theorem wlistC_any (base bw k : Nat) (l : List UInt8) (p : Option Addr) (n c : Nat) (hn : n < 256) (hk : k + 9 ≤ 536870912) (w : World) (h : IsW w base bw k (some l)) :
    Calls Tryz.prog 180 #[.agg #[.pointer (some ⟨bw, 0, none⟩), .pointer none], .slice p n c] w fun e w' => e = .returned (.slice p n c) ∧ WStep w w' base bw (k + 9) (some (l ++ Wire.be n 1)) := by
  have hb1 := (((Below.refl w.heap.size w).alloc (Nat.le_refl _) (.cells #[.pointer (some ⟨bw, 0, none⟩), .pointer none] 167 (0, 0))).alloc (by simp) (.cells #[.int .i64 (n : Int)] 3 (0, 0)))
  have HB1 := Lib.hid hb1
  have HBL := Lib.hid h.lt
  have HW1 := Lib.hid (h.below hb1)
  have HR1 : Hid (((w.alloc (.cells #[.pointer (some ⟨bw, 0, none⟩), .pointer none] 167 (0, 0))).alloc (.cells #[.int .i64 (n : Int)] 3 (0, 0))).heap[w.heap.size]? = some (.cells #[.pointer (some ⟨bw, 0, none⟩), .pointer none] 167 (0, 0))) := Lib.hid (row_after (new_rowW _ _ _ rfl))
  have HM1 : Hid (((w.alloc (.cells #[.pointer (some ⟨bw, 0, none⟩), .pointer none] 167 (0, 0))).alloc (.cells #[.int .i64 (n : Int)] 3 (0, 0))).heap[w.heap.size + 1]? = some (.cells #[.int .i64 (n : Int)] 3 (0, 0))) := Lib.hid (new_rowW _ _ _ (by simp))
  clear hb1 h
  go_enter Tryz.func180, Tryz.ntmps180
  go_upto_region 2 with fail
  generalize ((w.alloc (.cells #[.pointer (some ⟨bw, 0, none⟩), .pointer none] 167 (0, 0))).alloc (.cells #[.int .i64 (n : Int)] 3 (0, 0))) = w1 at *
  have hcw := fun j => cell_of_row w1 w.heap.size j _ _ _ HR1.out
  go_wp2_with fail
  refine (wwhole_any base bw k l n 1 (by decide) (by omega) (by omega) hk _ HW1.out (w.heap.size + 1) 0 _ _ HM1.out (by decide) rfl).mono ?_
  rintro e w2 ⟨rfl, hst⟩
  have HR2 := Lib.hid (hst.2.2.row HR1.out (by decide))
  have HST := Lib.hid hst
  clear hst hcw
  have km := fun j => cell_of_row w2 w.heap.size j _ _ _ HR2.out
  go_wp2
  go_ret
  exact ⟨rfl, WStep.pre HB1.out (by have := HBL.out; omega) HST.out⟩

set_option maxRecDepth 4000 in
set_option maxHeartbeats 2000000 in
theorem wlistT_any (base bw k : Nat) (l : List UInt8) (p : Option Addr) (n c : Nat) (hn : n < 256) (hk : k + 9 ≤ 536870912) (w : World) (h : IsW w base bw k (some l)) :
    Calls Tryz.prog 182 #[.agg #[.pointer (some ⟨bw, 0, none⟩), .pointer none], .slice p n c] w fun e w' => e = .returned (.slice p n c) ∧ WStep w w' base bw (k + 9) (some (l ++ Wire.be n 1)) := by
  have hb1 := (((Below.refl w.heap.size w).alloc (Nat.le_refl _) (.cells #[.pointer (some ⟨bw, 0, none⟩), .pointer none] 167 (0, 0))).alloc (by simp) (.cells #[.int .i64 (n : Int)] 3 (0, 0)))
  have HB1 := Lib.hid hb1
  have HBL := Lib.hid h.lt
  have HW1 := Lib.hid (h.below hb1)
  have HR1 : Hid (((w.alloc (.cells #[.pointer (some ⟨bw, 0, none⟩), .pointer none] 167 (0, 0))).alloc (.cells #[.int .i64 (n : Int)] 3 (0, 0))).heap[w.heap.size]? = some (.cells #[.pointer (some ⟨bw, 0, none⟩), .pointer none] 167 (0, 0))) := Lib.hid (row_after (new_rowW _ _ _ rfl))
  have HM1 : Hid (((w.alloc (.cells #[.pointer (some ⟨bw, 0, none⟩), .pointer none] 167 (0, 0))).alloc (.cells #[.int .i64 (n : Int)] 3 (0, 0))).heap[w.heap.size + 1]? = some (.cells #[.int .i64 (n : Int)] 3 (0, 0))) := Lib.hid (new_rowW _ _ _ (by simp))
  clear hb1 h
  go_enter Tryz.func182, Tryz.ntmps182
  go_upto_region 2 with fail
  generalize ((w.alloc (.cells #[.pointer (some ⟨bw, 0, none⟩), .pointer none] 167 (0, 0))).alloc (.cells #[.int .i64 (n : Int)] 3 (0, 0))) = w1 at *
  have hcw := fun j => cell_of_row w1 w.heap.size j _ _ _ HR1.out
  go_wp2_with fail
  refine (wwhole_any base bw k l n 1 (by decide) (by omega) (by omega) hk _ HW1.out (w.heap.size + 1) 0 _ _ HM1.out (by decide) rfl).mono ?_
  rintro e w2 ⟨rfl, hst⟩
  have HR2 := Lib.hid (hst.2.2.row HR1.out (by decide))
  have HST := Lib.hid hst
  clear hst hcw
  have km := fun j => cell_of_row w2 w.heap.size j _ _ _ HR2.out
  go_wp2
  go_ret
  exact ⟨rfl, WStep.pre HB1.out (by have := HBL.out; omega) HST.out⟩

set_option maxRecDepth 4000 in
set_option maxHeartbeats 2000000 in
theorem wlistE_any (base bw k : Nat) (l : List UInt8) (p : Option Addr) (n c : Nat) (hn : n < 256) (hk : k + 9 ≤ 536870912) (w : World) (h : IsW w base bw k (some l)) :
    Calls Tryz.prog 183 #[.agg #[.pointer (some ⟨bw, 0, none⟩), .pointer none], .slice p n c] w fun e w' => e = .returned (.slice p n c) ∧ WStep w w' base bw (k + 9) (some (l ++ Wire.be n 1)) := by
  have hb1 := (((Below.refl w.heap.size w).alloc (Nat.le_refl _) (.cells #[.pointer (some ⟨bw, 0, none⟩), .pointer none] 167 (0, 0))).alloc (by simp) (.cells #[.int .i64 (n : Int)] 3 (0, 0)))
  have HB1 := Lib.hid hb1
  have HBL := Lib.hid h.lt
  have HW1 := Lib.hid (h.below hb1)
  have HR1 : Hid (((w.alloc (.cells #[.pointer (some ⟨bw, 0, none⟩), .pointer none] 167 (0, 0))).alloc (.cells #[.int .i64 (n : Int)] 3 (0, 0))).heap[w.heap.size]? = some (.cells #[.pointer (some ⟨bw, 0, none⟩), .pointer none] 167 (0, 0))) := Lib.hid (row_after (new_rowW _ _ _ rfl))
  have HM1 : Hid (((w.alloc (.cells #[.pointer (some ⟨bw, 0, none⟩), .pointer none] 167 (0, 0))).alloc (.cells #[.int .i64 (n : Int)] 3 (0, 0))).heap[w.heap.size + 1]? = some (.cells #[.int .i64 (n : Int)] 3 (0, 0))) := Lib.hid (new_rowW _ _ _ (by simp))
  clear hb1 h
  go_enter Tryz.func183, Tryz.ntmps183
  go_upto_region 2 with fail
  generalize ((w.alloc (.cells #[.pointer (some ⟨bw, 0, none⟩), .pointer none] 167 (0, 0))).alloc (.cells #[.int .i64 (n : Int)] 3 (0, 0))) = w1 at *
  have hcw := fun j => cell_of_row w1 w.heap.size j _ _ _ HR1.out
  go_wp2_with fail
  refine (wwhole_any base bw k l n 1 (by decide) (by omega) (by omega) hk _ HW1.out (w.heap.size + 1) 0 _ _ HM1.out (by decide) rfl).mono ?_
  rintro e w2 ⟨rfl, hst⟩
  have HR2 := Lib.hid (hst.2.2.row HR1.out (by decide))
  have HST := Lib.hid hst
  clear hst hcw
  have km := fun j => cell_of_row w2 w.heap.size j _ _ _ HR2.out
  go_wp2
  go_ret
  exact ⟨rfl, WStep.pre HB1.out (by have := HBL.out; omega) HST.out⟩
end Go.Proofs.YtbmphlpmipkpcaaGreat
