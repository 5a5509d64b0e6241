/- Plain words for a ticket's change; own rows written in place. Contracts: how a ticket's parts are put (the ways of the ticket package, with a writer). -/
import Derived.Test.YtbmphlpmipkpcaaGreatRnm6
import Derived.Test.YtbmphlpmipkpcaaGreatRnm19
import Derived.Test.YtbmphlpmipkpcaaGreatRnm13

section
set_option linter.unusedVariables false
set_option linter.unusedSimpArgs false
namespace Go.Proofs.YtbmphlpmipkpcaaGreat
open Go.RowKit

namespace Tkt
def zTk : Tk := ⟨0, ⟨#[]⟩, 0, [], [], 0, 0, 0, 0, 0, []⟩
def lastD (t : Tk) : Int := match t.hs.getLast? with | none => t.iss | some e => e.dy
def chgC (c : Cpn) (tq wi : Int) : Cpn := ⟨c.fl, c.dy, c.va, tq, if tq = 9 then wi else 0, if tq = 5 then wi else 0⟩
/-- a change's error -/
def errC (t : Tk) (co on tq wi : Int) : Int :=
  if mayB t = true ∧ 1 ≤ co ∧ co ≤ t.cs.length ∧ withB t.num tq wi = true then
    match t.cs[co.toNat - 1]? with
    | none => 2
    | some c => if leadsB c.st tq = true then (if lastD t ≤ on ∧ on ≤ 1000000 then (if t.hs.length = 60 then 8 else 0) else 15) else 9
  else 2
def chg (t : Tk) (co on tq wi : Int) : Tk :=
  match t.cs[co.toNat - 1]? with
  | none => t
  | some c => ⟨t.num, t.loc, t.iss, t.cs.set (co.toNat - 1) (chgC c tq wi), t.ts, t.prev, t.org, t.fst, t.vou, t.posts, t.hs ++ [⟨on, co, c.st, tq⟩]⟩
def chgT (t : Tk) (co on tq wi : Int) : Tk := if errC t co on tq wi = 0 then chg t co on tq wi else zTk
theorem mayB_lens {t : Tk} (h : mayB t = true) : 1 ≤ t.cs.length ∧ t.cs.length ≤ 4 ∧ t.ts.length ≤ 4 ∧ t.hs.length ≤ 60 := by
  unfold mayB lensB at h
  simp only [Bool.and_eq_true, decide_eq_true_eq] at h
  omega
theorem errC_ok {t : Tk} {k : Nat} {y : Cpn} {on tq wi : Int} (hm : mayB t = true) (hy : t.cs[k]? = some y) (hf : withB t.num tq wi = true) :
    errC t ((k : Int) + 1) on tq wi = if leadsB y.st tq = true then (if lastD t ≤ on ∧ on ≤ 1000000 then (if t.hs.length = 60 then 8 else 0) else 15) else 9 := by
  have hk : k < t.cs.length := (List.getElem?_eq_some_iff.1 hy).1
  unfold errC
  rw [if_pos ⟨hm, by omega, by omega, hf⟩, show ((k : Int) + 1).toNat - 1 = k by omega, hy]
theorem chg_ok {t : Tk} {k : Nat} {y : Cpn} {on tq wi : Int} (hy : t.cs[k]? = some y) :
    chg t ((k : Int) + 1) on tq wi = ⟨t.num, t.loc, t.iss, t.cs.set k (chgC y tq wi), t.ts, t.prev, t.org, t.fst, t.vou, t.posts, t.hs ++ [⟨on, (k : Int) + 1, y.st, tq⟩]⟩ := by
  unfold chg
  rw [show ((k : Int) + 1).toNat - 1 = k by omega, hy]
end Tkt

section
variable {α : Type} {enc : α → List Value} {n : Nat}
end
end Go.Proofs.YtbmphlpmipkpcaaGreat
end

section
set_option linter.unusedVariables false
set_option linter.unusedSimpArgs false
namespace Go.Proofs.YtbmphlpmipkpcaaGreat
open Go.RowKit

section
variable {P : Program} {ops : Array Oper} {Q : Exit → Act → World → Prop} {md : Region.Mode} {C : World → Prop} {s0 : Nat}
end
theorem wnum_fit {l : List UInt8} {N s : Nat} (hs : s = 1 ∨ s = 2 ∨ s = 4 ∨ s = 8) (hN : N < 256 ^ s) : Wire.wNum (some l) N (s : Int) = some (l ++ Wire.be N s) := by
  rw [wnum_at (by rcases hs with rfl | rfl | rfl | rfl <;> rfl), if_pos (by simpa using hN)]
  rfl

set_option maxRecDepth 4000 in
set_option maxHeartbeats 2000000 in
theorem wlong_any (base bw k : Nat) (l : List UInt8) (N s : Nat) (hs : s = 1 ∨ s = 2 ∨ s = 4 ∨ s = 8) (hN : N < 256 ^ s) (hk : k + 9 ≤ 536870912) (w : World) (h : IsW w base bw k (some l)) (b o : Nat) (cs : Array Value) (ty : TypeId) (hrow : w.heap[b]? = some (.cells cs ty (0, 0))) (hc : cs[o]? = some (.int .u64 (N : Int))) :
    Calls Tryz.prog 176 #[.agg #[.pointer (some ⟨bw, 0, none⟩), .pointer none], .pointer (some ⟨b, o, none⟩), .int .i64 (s : Int)] w fun e w' => e = .returned (.tuple #[]) ∧ WStep w w' base bw (k + 9) (some (l ++ Wire.be N s)) := by
  have hN64 : N < 18446744073709551616 := Nat.lt_of_lt_of_le hN (by rcases hs with rfl | rfl | rfl | rfl <;> decide)
  have HFIT := Lib.hid (wnum_fit (l := l) hs hN)
  have HBL := Lib.hid h.lt
  have hb1 := ((Below.refl w.heap.size w).alloc (Nat.le_refl _) (.cells #[.pointer (some ⟨bw, 0, none⟩), .pointer none] 167 (0, 0)))
  have HB1 := Lib.hid hb1.drew
  have HW1 := Lib.hid (h.below hb1.drew)
  have hr1 : ((w.alloc (.cells #[.pointer (some ⟨bw, 0, none⟩), .pointer none] 167 (0, 0))).drew).heap[w.heap.size]? = some (.cells #[.pointer (some ⟨bw, 0, none⟩), .pointer none] 167 (0, 0)) := new_rowW _ _ _ rfl
  have hn1 : ((w.alloc (.cells #[.pointer (some ⟨bw, 0, none⟩), .pointer none] 167 (0, 0))).drew).heap[b]? = some (.cells cs ty (0, 0)) := row_after hrow
  have HC : Hid (((w.alloc (.cells #[.pointer (some ⟨bw, 0, none⟩), .pointer none] 167 (0, 0))).drew).cell? ⟨w.heap.size, 0, none⟩ = some (.pointer (some ⟨bw, 0, none⟩)) ∧ ((w.alloc (.cells #[.pointer (some ⟨bw, 0, none⟩), .pointer none] 167 (0, 0))).drew).cell? ⟨b, o, none⟩ = some (.int .u64 (N : Int))) := Lib.hid ⟨cell_of_row _ _ 0 _ _ _ hr1, (cell_of_row _ _ o _ _ _ hn1).trans hc⟩
  clear hb1 hr1 hn1 hrow hc hN hs h
  go_enter Tryz.func176, Tryz.ntmps176
  go_wp2_with fail
  refine wp_region_G (C := fun W => W.cell? ⟨w.heap.size, 0, none⟩ = some (.pointer (some ⟨bw, 0, none⟩)) ∧ W.cell? ⟨b, o, none⟩ = some (.int .u64 (N : Int))) (s0 := 6) (by kernel_rfl) ?_
  generalize (w.alloc (.cells #[.pointer (some ⟨bw, 0, none⟩), .pointer none] 167 (0, 0))).drew = w1 at *
  have hHeld := HC.out
  refine wpAnyG_takeU (i := 0) (oi := { dst := some 9, op := Op.fieldAddr 167 (Operand.tmp 3) 0, type := 0, pos := "ticket.go:119", after := #[], guard := none }) (v := ?_) rfl (by kernel_rfl) (by kernel_rfl) (by kernel_rfl) (by decide) (fun _ _ _ h => h) (Or.inl ⟨by rfl, ?_⟩) (by first | exact .inl (by assumption) | exact .inr rfl) ?_
  rotate_left
  · intro w hSw; go_simp; try with_reducible rfl
  try simp only [Act.put, List.setIfInBounds_toArray, List.set_cons_zero, List.set_cons_succ]
  refine wpAnyG_take (i := 1) (oi := { dst := some 10, op := Op.load 95 (Operand.tmp 9), type := 95, pos := "ticket.go:119", after := #[{ on := 0, ground := Ground.data }], guard := none }) (v := ?_) rfl (by kernel_rfl) (by kernel_rfl) (by kernel_rfl) (by decide) (by kernel_rfl) (by kernel_rfl) (fun _ _ _ h => h) (Or.inl ⟨by rfl, ?_⟩) (by assumption) ?_
  rotate_left
  · intro w hSw; (try dsimp only at hSw); go_simp; try with_reducible rfl
  try simp only [Act.put, List.setIfInBounds_toArray, List.set_cons_zero, List.set_cons_succ]
  refine wpAnyG_takeU (i := 2) (oi := { dst := some 11, op := Op.move (Operand.tmp 1), type := 176, pos := "ticket.go:119", after := #[], guard := none }) (v := ?_) rfl (by kernel_rfl) (by kernel_rfl) (by kernel_rfl) (by decide) (fun _ _ _ h => h) (Or.inl ⟨by rfl, ?_⟩) (by first | exact .inl (by assumption) | exact .inr rfl) ?_
  rotate_left
  · intro w hSw; go_simp; try with_reducible rfl
  try simp only [Act.put, List.setIfInBounds_toArray, List.set_cons_zero, List.set_cons_succ]
  refine wpAnyG_takeU (i := 3) (oi := { dst := some 12, op := Op.nilCheck (Operand.tmp 11), type := 0, pos := "ticket.go:119", after := #[{ on := 2, ground := Ground.data }], guard := none }) (v := ?_) rfl (by kernel_rfl) (by kernel_rfl) (by kernel_rfl) (by decide) (fun _ _ _ h => h) (Or.inl ⟨by rfl, ?_⟩) (by first | exact .inl (by assumption) | exact .inr rfl) ?_
  rotate_left
  · intro w hSw; go_simp; try with_reducible rfl
  try simp only [Act.put, List.setIfInBounds_toArray, List.set_cons_zero, List.set_cons_succ]
  refine wpAnyG_take (i := 4) (oi := { dst := some 13, op := Op.load 22 (Operand.tmp 12), type := 22, pos := "ticket.go:119", after := #[{ on := 3, ground := Ground.data }], guard := none }) (v := ?_) rfl (by kernel_rfl) (by kernel_rfl) (by kernel_rfl) (by decide) (by kernel_rfl) (by kernel_rfl) (fun _ _ _ h => h) (Or.inl ⟨by rfl, ?_⟩) (by assumption) ?_
  rotate_left
  · intro w hSw; (try dsimp only at hSw); go_simp; try with_reducible rfl
  try simp only [Act.put, List.setIfInBounds_toArray, List.set_cons_zero, List.set_cons_succ]
  refine wpAnyG_takeU (i := 5) (oi := { dst := some 14, op := Op.move (Operand.tmp 2), type := 3, pos := "ticket.go:119", after := #[], guard := none }) (v := ?_) rfl (by kernel_rfl) (by kernel_rfl) (by kernel_rfl) (by decide) (fun _ _ _ h => h) (Or.inl ⟨by rfl, ?_⟩) (by first | exact .inl (by assumption) | exact .inr rfl) ?_
  rotate_left
  · intro w hSw; go_simp; try with_reducible rfl
  try simp only [Act.put, List.setIfInBounds_toArray, List.set_cons_zero, List.set_cons_succ]
  refine wpAnyG_one (i := 6) (o := { dst := some 15, op := Op.call { callee := Callee.value (Operand.func 77), args := #[Operand.tmp 10, Operand.tmp 13, Operand.tmp 14], argTypes := #[95, 22, 3] }, type := 95, pos := "ticket.go:119", after := #[{ on := 1, ground := Ground.data }, { on := 4, ground := Ground.data }, { on := 5, ground := Ground.data }], guard := none }) (by kernel_rfl) rfl (fun K hK => ?_)
  go_simp
  go_at_call 77
  refine (wnumber_any base bw k (some l) N hN64 (s : Int) hk _ HW1.out).mono ?_
  rintro e w2 ⟨rfl, hst⟩
  rw [HFIT.out] at hst
  have HST := Lib.hid hst
  clear hst
  refine hK.out _ _ (.inr rfl) ?_
  clear hK K
  try simp only [Act.put, List.setIfInBounds_toArray, List.set_cons_zero, List.set_cons_succ]
  refine wpAnyG_done (by kernel_rfl) ?_ _
  clear hHeld HC
  go_wp2
  refine bodyPost_ret (results_none rfl _ _ _) rfl ?_
  exact ⟨rfl, WStep.pre HB1.out (by have := HBL.out; omega) HST.out⟩

set_option maxRecDepth 4000 in
set_option maxHeartbeats 2000000 in
theorem wwhole_any (base bw k : Nat) (l : List UInt8) (N s : Nat) (hs : s = 1 ∨ s = 2 ∨ s = 4 ∨ s = 8) (hN : N < 256 ^ s) (hN3 : N < 9223372036854775808) (hk : k + 9 ≤ 536870912) (w : World) (h : IsW w base bw k (some l)) (b o : Nat) (cs : Array Value) (ty : TypeId) (hrow : w.heap[b]? = some (.cells cs ty (0, 0))) (hty : ty ∉ WT) (hc : cs[o]? = some (.int .i64 (N : Int))) :
    Calls Tryz.prog 178 #[.agg #[.pointer (some ⟨bw, 0, none⟩), .pointer none], .pointer (some ⟨b, o, none⟩), .int .i64 (s : Int)] w fun e w' => e = .returned (.tuple #[]) ∧ WStep w w' base bw (k + 9) (some (l ++ Wire.be N s)) := by
  have hwu : IntKind.u64.wrap (N : Int) = (N : Int) := by rw [IntKind.wrap_u64]; omega
  have hwi : IntKind.i64.wrap (N : Int) = (N : Int) := by rw [IntKind.wrap_i64]; omega
  have hb1 := (((Below.refl w.heap.size w).alloc (Nat.le_refl _) (.cells #[.pointer (some ⟨bw, 0, none⟩), .pointer none] 167 (0, 0))).alloc (by simp) (.cells #[.int .u64 (N : Int)] 22 (0, 0)))
  have HB1 := Lib.hid hb1
  have HBL := Lib.hid h.lt
  have HW1 := Lib.hid (h.below hb1)
  have HR1 : Hid (((w.alloc (.cells #[.pointer (some ⟨bw, 0, none⟩), .pointer none] 167 (0, 0))).alloc (.cells #[.int .u64 (N : Int)] 22 (0, 0))).heap[w.heap.size]? = some (.cells #[.pointer (some ⟨bw, 0, none⟩), .pointer none] 167 (0, 0))) := Lib.hid (row_after (new_rowW _ _ _ rfl))
  have HM1 : Hid (((w.alloc (.cells #[.pointer (some ⟨bw, 0, none⟩), .pointer none] 167 (0, 0))).alloc (.cells #[.int .u64 (N : Int)] 22 (0, 0))).heap[w.heap.size + 1]? = some (.cells #[.int .u64 (N : Int)] 22 (0, 0))) := Lib.hid (new_rowW _ _ _ (by simp))
  have HN1 : Hid (((w.alloc (.cells #[.pointer (some ⟨bw, 0, none⟩), .pointer none] 167 (0, 0))).alloc (.cells #[.int .u64 (N : Int)] 22 (0, 0))).heap[b]? = some (.cells cs ty (0, 0))) := Lib.hid (row_after (row_after hrow))
  have c0 : w.cell? ⟨b, o, none⟩ = some (.int .i64 (N : Int)) := (cell_of_row _ _ o _ _ _ hrow).trans hc
  have hbl := block_lt hrow
  have HTY := Lib.hid hty; have HCC := Lib.hid hc; have HS := Lib.hid hs; have HNN := Lib.hid hN
  clear hb1 hrow hc h hty hs hN
  go_enter Tryz.func178, Tryz.ntmps178
  go_upto_region 2 with fail
  generalize ((w.alloc (.cells #[.pointer (some ⟨bw, 0, none⟩), .pointer none] 167 (0, 0))).alloc (.cells #[.int .u64 (N : Int)] 22 (0, 0))) = w1 at *
  clear c0 hbl
  have hcw := fun j => cell_of_row w1 w.heap.size j _ _ _ HR1.out
  go_wp2_with fail
  refine (wlong_any base bw k l N s HS.out HNN.out hk _ HW1.out (w.heap.size + 1) 0 _ _ HM1.out rfl).mono ?_
  rintro e w2 ⟨rfl, hst⟩
  have HM2 := Lib.hid (hst.2.2.row HM1.out (by decide))
  have HN2 := Lib.hid (hst.2.2.row HN1.out HTY.out)
  have HST := Lib.hid hst
  clear hst hcw
  have km := fun j => cell_of_row w2 (w.heap.size + 1) j _ _ _ HM2.out
  have kn : w2.cell? ⟨b, o, none⟩ = some (.int .i64 (N : Int)) := (cell_of_row _ _ o _ _ _ HN2.out).trans HCC.out
  have kf := fun j => frozen_of_row w2 b j _ _ HN2.out
  have HID := Lib.hid (setCell_id HN2.out HCC.out)
  go_wp2
  go_end0
  refine ⟨rfl, ?_⟩
  rw [HID.out]
  exact WStep.pre HB1.out (by have := HBL.out; omega) HST.out
end Go.Proofs.YtbmphlpmipkpcaaGreat
end
