/- Contracts: requests in memory: which are the same (request.Same), a clone. -/
import Derived.Test.YtbmphlpmipkpcaaGreatRnm8
import Derived.Test.YtbmphlpmipkpcaaGreatRnm25
import Derived.Test.YtbmphlpmipkpcaaGreatRnm19

set_option linter.unusedVariables false
set_option linter.unusedSimpArgs false
namespace Go.Proofs.YtbmphlpmipkpcaaGreat
open Go.RowKit Go.Deep

instance : DecidableEq Cpn := fun a b => decidable_of_iff (Cpn.eqB a b = true) (Cpn.eqB_iff a b)
instance : DecidableEq Txx := fun a b => decidable_of_iff (Txx.eqB a b = true) (Txx.eqB_iff a b)
structure Rqt where
  key : ByteArray
  loc : ByteArray
  k : Int
  d : Int
  tk : Int
  c : Int
  st : Int
  am : Int
  fr : Int
  tt : Int
  cs : List Cpn
  xs : List Txx
structure Rqt.wf (x : Rqt) : Prop where
  key : x.key.size ≤ maxLen
  loc : x.loc.size ≤ maxLen
  k : I64 x.k
  d : I64 x.d
  tk : U64 x.tk
  c : I64 x.c
  st : I64 x.st
  am : I64 x.am
  fr : I64 x.fr
  tt : I64 x.tt
  cs : ∀ c ∈ x.cs, c.wf
  xs : ∀ c ∈ x.xs, c.wf
def rqC (x : Rqt) (cv tv : Value) : List Value := [.string x.key, .int .i64 x.k, .int .i64 x.d, .int .u64 x.tk, .int .i64 x.c, .int .i64 x.st, .string x.loc, cv, tv, .int .i64 x.am, .int .i64 x.fr, .int .i64 x.tt]
def bareC (x : Rqt) : List Value := [.int .i64 x.k, .string x.key, .string x.loc, .int .i64 x.d, .int .i64 x.c, .int .u64 x.tk, .int .i64 x.st, .int .i64 x.am, .int .i64 x.fr, .int .i64 x.tt]
def bareB (x y : Rqt) : Bool := decide (x.k = y.k) && (decide (x.key.toList = y.key.toList) && (decide (x.loc.toList = y.loc.toList) && (decide (x.d = y.d) && (decide (x.c = y.c) && (decide (x.tk = y.tk) && (decide (x.st = y.st) && (decide (x.am = y.am) && (decide (x.fr = y.fr) && (decide (x.tt = y.tt))))))))))
/-- are two requests the same? -/
def eqRq (x y : Rqt) : Bool := bareB x y && decide (x.cs = y.cs) && decide (x.xs = y.xs)

theorem Rq_execLoad (ρ : Operand → Value) (dst : Option Tmp) (x : Operand) (ty : TypeId) (pos : String) (after : Array Edge) (guard : Option (Nat × Bool)) :
    execOp ρ { dst, op := .load 57 x, type := ty, pos, after, guard } = recLoad 57 (ρ x) := rfl
theorem Rq_execStore (ρ : Operand → Value) (dst : Option Tmp) (x y : Operand) (ty : TypeId) (pos : String) (after : Array Edge) (guard : Option (Nat × Bool)) :
    execOp ρ { dst, op := .store 57 x y, type := ty, pos, after, guard } = recStore 57 (ρ x) (ρ y) := rfl
theorem Rq_load (w : World) (b o : Nat) (h : okL 12 w b o) : (recLoad 57 (.pointer (some ⟨b, o, none⟩))).run Tryz.prog w = .ok (.value (.agg (loL 12 w b o).toArray)) w := by
  unfold recLoad
  rw [Sem.run_bind, run_load_rec 12 Tryz.underlying57 rfl (by kernel_rfl) w b o h]
  rfl
theorem Rq_store (w : World) (b o : Nat) (cs : List Value) (ht : w.there b o 12) (hn : cs.length = 12) (h1 : cs.all (·.oneCell') = true) :
    (recStore 57 (.pointer (some ⟨b, o, none⟩)) (.agg cs.toArray)).run Tryz.prog w = .ok .skip (w.setCells b o cs) := by
  unfold recStore
  rw [Sem.run_bind, run_store_rec 12 (by kernel_rfl) w b o cs ht hn h1]
  rfl

theorem Br_execLoad (ρ : Operand → Value) (dst : Option Tmp) (x : Operand) (ty : TypeId) (pos : String) (after : Array Edge) (guard : Option (Nat × Bool)) :
    execOp ρ { dst, op := .load 129 x, type := ty, pos, after, guard } = recLoad 129 (ρ x) := rfl
theorem Br_execStore (ρ : Operand → Value) (dst : Option Tmp) (x y : Operand) (ty : TypeId) (pos : String) (after : Array Edge) (guard : Option (Nat × Bool)) :
    execOp ρ { dst, op := .store 129 x y, type := ty, pos, after, guard } = recStore 129 (ρ x) (ρ y) := rfl
theorem Br_load (w : World) (b o : Nat) (h : okL 10 w b o) : (recLoad 129 (.pointer (some ⟨b, o, none⟩))).run Tryz.prog w = .ok (.value (.agg (loL 10 w b o).toArray)) w := by
  unfold recLoad
  rw [Sem.run_bind, run_load_rec 10 Tryz.underlying129 rfl (by kernel_rfl) w b o h]
  rfl
theorem Br_store (w : World) (b o : Nat) (cs : List Value) (ht : w.there b o 10) (hn : cs.length = 10) (h1 : cs.all (·.oneCell') = true) :
    (recStore 129 (.pointer (some ⟨b, o, none⟩)) (.agg cs.toArray)).run Tryz.prog w = .ok .skip (w.setCells b o cs) := by
  unfold recStore
  rw [Sem.run_bind, run_store_rec 10 (by kernel_rfl) w b o cs ht hn h1]
  rfl

theorem loadRq {w : World} {g : Nat} {cs : Array Value} {e : TypeId} (h : w.heap[g]? = some (.cells cs e (0, 0))) (hs : cs.size = 12) : (loadVar 57 ⟨g, 0, none⟩).run Tryz.prog w = .ok (.agg cs) w := by
  refine run_loadVar_row w g e 57 cs (0, 0) _ h Tryz.underlying57 rfl ?_
  rw [hs]; kernel_rfl
theorem loadBr {w : World} {g : Nat} {cs : Array Value} {e : TypeId} (h : w.heap[g]? = some (.cells cs e (0, 0))) (hs : cs.size = 10) : (loadVar 129 ⟨g, 0, none⟩).run Tryz.prog w = .ok (.agg cs) w := by
  refine run_loadVar_row w g e 129 cs (0, 0) _ h Tryz.underlying129 rfl ?_
  rw [hs]; kernel_rfl
set_option maxRecDepth 10000 in
set_option maxHeartbeats 1000000 in
theorem eqInBr (x y : Rqt) (w : World) : (Op.equalIn 10000 129 (.agg #[.int .i64 x.k, .string x.key, .string x.loc, .int .i64 x.d, .int .i64 x.c, .int .u64 x.tk, .int .i64 x.st, .int .i64 x.am, .int .i64 x.fr, .int .i64 x.tt]) (.agg #[.int .i64 y.k, .string y.key, .string y.loc, .int .i64 y.d, .int .i64 y.c, .int .u64 y.tk, .int .i64 y.st, .int .i64 y.am, .int .i64 y.fr, .int .i64 y.tt])).run Tryz.prog w = .ok (bareB x y) w := by
  have hS : Tryz.prog.underlying 129 = some (.struct (Tryz.prog.fieldsOf 129)) := by kernel_rfl
  have hp : Tryz.prog.stoodInHeld 129 = false := by kernel_rfl
  unfold bareB
  rw [show (10000 : Nat) = 9999 + 1 from rfl, run_equalIn_agg w 9999 129 _ _ hS hp]
  simp only [Program.fieldsOf, Tryz.underlying129]
  clear hS hp
  go_simp
  simp only [ite_okS, Bool.and_true]
  try rfl
theorem guardBr (x y : Operand) (xs ys : Array Value) (w : World) : (eqGuard .eql 129 x y (.agg xs) (.agg ys)).run Tryz.prog w = .ok () w := run_eqGuard_agg w _ _ _ _ _ _ (by kernel_rfl)
theorem eqlBr (x y : Rqt) (w : World) : (binOp .eql 129 (.agg #[.int .i64 x.k, .string x.key, .string x.loc, .int .i64 x.d, .int .i64 x.c, .int .u64 x.tk, .int .i64 x.st, .int .i64 x.am, .int .i64 x.fr, .int .i64 x.tt]) (.agg #[.int .i64 y.k, .string y.key, .string y.loc, .int .i64 y.d, .int .i64 y.c, .int .u64 y.tk, .int .i64 y.st, .int .i64 y.am, .int .i64 y.fr, .int .i64 y.tt])).run Tryz.prog w = .ok (.bool (bareB x y)) w := by
  rw [run_eql_struct, eqInBr]
  rfl
section
attribute [local go_sem ↓] Cp_execLoad Cp_execStore

attribute [local go_sem] Cp_load Cp_store loL_drew okL_drew there_sc World.there_drew

set_option maxRecDepth 4000 in
set_option maxHeartbeats 1000000 in
theorem equalCp_any (l m : List Cpn) (bv : Bool) (hbv : bv = true ↔ l = m) (p p' : Option Addr) (n n' cap cap' : Nat) (w : World) (hs : LS Cpn.cells 6 w (.slice p n cap) l) (hs' : LS Cpn.cells 6 w (.slice p' n' cap') m) :
    Calls Tryz.prog 74 #[.slice p n cap, .slice p' n' cap'] w fun e w' => e = .returned (.bool bv) ∧ Below w.heap.size w w' := by
  have HL := Lib.hid hs.length
  have HL' := Lib.hid hs'.length
  have HS := Lib.hid hs; have HS' := Lib.hid hs'; have HBV := Lib.hid hbv
  have hmax : n ≤ 9223372036854775807 := by have h1 := HL.out.2.1; have h2 := HL.out.2.2; simp only [maxLen] at h2; omega
  have hmax' : n' ≤ 9223372036854775807 := by have h1 := HL'.out.2.1; have h2 := HL'.out.2.2; simp only [maxLen] at h2; omega
  clear hs hs' hbv
  by_cases hnn : n = n'
  · subst hnn
    go_enter Tryz.func74, Tryz.ntmps74
    go_wp2
    go_loopw [13] (fun i wr => ∃ k : Nat, k ≤ n ∧ i = .int .i64 k ∧ Below w.heap.size w wr ∧ l.take k = m.take k) (fun i _ => n - (intOf i).toNat)
    case atStart => exact ⟨0, Nat.zero_le _, rfl, Below.refl _ _, rfl⟩
    case round =>
      obtain ⟨k, hk, rfl, hbw, heq⟩ := hrel
      have HBW := Lib.hid hbw; have HEQ := Lib.hid heq
      clear heq
      by_cases hlt : k < n
      · obtain ⟨x, hx⟩ : ∃ x, l[k]? = some x := ⟨_, List.getElem?_eq_getElem (by have := HL.out.1; omega)⟩
        obtain ⟨y, hy⟩ : ∃ y, m[k]? = some y := ⟨_, List.getElem?_eq_getElem (by have := HL'.out.1; omega)⟩
        have HX := Lib.hid hx; have HY := Lib.hid hy
        obtain ⟨b, o, rfl, hb, hr⟩ := (HS.out.below hbw).at hx
        obtain ⟨b', o', rfl, hb', hr'⟩ := (HS'.out.below hbw).at hy
        obtain ⟨f1, f2⟩ := loL_of hr (Cpn.cells_length x)
        obtain ⟨f3, f4⟩ := loL_of hr' (Cpn.cells_length y)
        obtain ⟨q, hq⟩ : ∃ q, Cpn.eqB x y = q := ⟨_, rfl⟩
        have hE : ∀ W, (Op.equalIn 10000 33 (.agg x.cells.toArray) (.agg y.cells.toArray)).run Tryz.prog W = .ok q W := fun W => by rw [← hq]; exact eqInCp x y W
        have HQ := Lib.hid (hq ▸ Cpn.eqB_iff x y : (q = true ↔ x = y))
        have hG := guardneqCp
        have hG2 := guardeqlCp
        generalize x.cells = cx at *
        generalize y.cells = cy at *
        clear hx hy hr hr' hbw hq
        cases q
        · go_wp2_with fail
          go_region
          go_wp2
          go_ret
          refine ⟨ret_bool ?_, HBW.out.drew⟩
          cases hb : bv
          · rfl
          · have h1 := HBV.out.1 hb
            have h2 := HX.out
            rw [h1, HY.out] at h2
            injection h2 with h2
            exact absurd (HQ.out.2 h2.symm) (by simp)
        · go_wp2_with fail
          go_region
          go_wp2
          go_roundw
          case rel => exact ⟨k + 1, by omega, by go_num, HBW.out.drew, by rw [List.take_add_one, List.take_add_one, HX.out, HY.out, HEQ.out, HQ.out.1 (by trivial)]⟩
          case measure => simp [intOf]; omega
      · obtain rfl : k = n := by omega
        have HF : Hid (bv = true) := Lib.hid (HBV.out.2 (by
          have := HEQ.out
          rwa [List.take_of_length_le (by have := HL.out.1; omega), List.take_of_length_le (by have := HL'.out.1; omega)] at this))
        go_wp2
        go_ret
        exact ⟨ret_bool HF.out.symm, HBW.out⟩
  · have HF : Hid (bv = false) := Lib.hid (by
      cases hb : bv
      · rfl
      · exact absurd (by rw [HL.out.1, HL'.out.1, HBV.out.1 hb]) hnn)
    have hnni : ¬ (n : Int) = (n' : Int) := by omega
    go_enter Tryz.func74, Tryz.ntmps74
    go_wp2
    go_ret
    exact ⟨ret_bool HF.out.symm, Below.refl _ _⟩
end
section
attribute [local go_sem ↓] Tx_execLoad Tx_execStore

attribute [local go_sem] Tx_load Tx_store loL_drew okL_drew there_sc World.there_drew

set_option maxRecDepth 4000 in
set_option maxHeartbeats 1000000 in
theorem equalTx_any (l m : List Txx) (bv : Bool) (hbv : bv = true ↔ l = m) (p p' : Option Addr) (n n' cap cap' : Nat) (w : World) (hs : LS Txx.cells 2 w (.slice p n cap) l) (hs' : LS Txx.cells 2 w (.slice p' n' cap') m) :
    Calls Tryz.prog 75 #[.slice p n cap, .slice p' n' cap'] w fun e w' => e = .returned (.bool bv) ∧ Below w.heap.size w w' := by
  have HL := Lib.hid hs.length
  have HL' := Lib.hid hs'.length
  have HS := Lib.hid hs; have HS' := Lib.hid hs'; have HBV := Lib.hid hbv
  have hmax : n ≤ 9223372036854775807 := by have h1 := HL.out.2.1; have h2 := HL.out.2.2; simp only [maxLen] at h2; omega
  have hmax' : n' ≤ 9223372036854775807 := by have h1 := HL'.out.2.1; have h2 := HL'.out.2.2; simp only [maxLen] at h2; omega
  clear hs hs' hbv
  by_cases hnn : n = n'
  · subst hnn
    go_enter Tryz.func75, Tryz.ntmps75
    go_wp2
    go_loopw [13] (fun i wr => ∃ k : Nat, k ≤ n ∧ i = .int .i64 k ∧ Below w.heap.size w wr ∧ l.take k = m.take k) (fun i _ => n - (intOf i).toNat)
    case atStart => exact ⟨0, Nat.zero_le _, rfl, Below.refl _ _, rfl⟩
    case round =>
      obtain ⟨k, hk, rfl, hbw, heq⟩ := hrel
      have HBW := Lib.hid hbw; have HEQ := Lib.hid heq
      clear heq
      by_cases hlt : k < n
      · obtain ⟨x, hx⟩ : ∃ x, l[k]? = some x := ⟨_, List.getElem?_eq_getElem (by have := HL.out.1; omega)⟩
        obtain ⟨y, hy⟩ : ∃ y, m[k]? = some y := ⟨_, List.getElem?_eq_getElem (by have := HL'.out.1; omega)⟩
        have HX := Lib.hid hx; have HY := Lib.hid hy
        obtain ⟨b, o, rfl, hb, hr⟩ := (HS.out.below hbw).at hx
        obtain ⟨b', o', rfl, hb', hr'⟩ := (HS'.out.below hbw).at hy
        obtain ⟨f1, f2⟩ := loL_of hr (Txx.cells_length x)
        obtain ⟨f3, f4⟩ := loL_of hr' (Txx.cells_length y)
        obtain ⟨q, hq⟩ : ∃ q, Txx.eqB x y = q := ⟨_, rfl⟩
        have hE : ∀ W, (Op.equalIn 10000 127 (.agg x.cells.toArray) (.agg y.cells.toArray)).run Tryz.prog W = .ok q W := fun W => by rw [← hq]; exact eqInTx x y W
        have HQ := Lib.hid (hq ▸ Txx.eqB_iff x y : (q = true ↔ x = y))
        have hG := guardneqTx
        have hG2 := guardeqlTx
        generalize x.cells = cx at *
        generalize y.cells = cy at *
        clear hx hy hr hr' hbw hq
        cases q
        · go_wp2_with fail
          go_region
          go_wp2
          go_ret
          refine ⟨ret_bool ?_, HBW.out.drew⟩
          cases hb : bv
          · rfl
          · have h1 := HBV.out.1 hb
            have h2 := HX.out
            rw [h1, HY.out] at h2
            injection h2 with h2
            exact absurd (HQ.out.2 h2.symm) (by simp)
        · go_wp2_with fail
          go_region
          go_wp2
          go_roundw
          case rel => exact ⟨k + 1, by omega, by go_num, HBW.out.drew, by rw [List.take_add_one, List.take_add_one, HX.out, HY.out, HEQ.out, HQ.out.1 (by trivial)]⟩
          case measure => simp [intOf]; omega
      · obtain rfl : k = n := by omega
        have HF : Hid (bv = true) := Lib.hid (HBV.out.2 (by
          have := HEQ.out
          rwa [List.take_of_length_le (by have := HL.out.1; omega), List.take_of_length_le (by have := HL'.out.1; omega)] at this))
        go_wp2
        go_ret
        exact ⟨ret_bool HF.out.symm, HBW.out⟩
  · have HF : Hid (bv = false) := Lib.hid (by
      cases hb : bv
      · rfl
      · exact absurd (by rw [HL.out.1, HL'.out.1, HBV.out.1 hb]) hnn)
    have hnni : ¬ (n : Int) = (n' : Int) := by omega
    go_enter Tryz.func75, Tryz.ntmps75
    go_wp2
    go_ret
    exact ⟨ret_bool HF.out.symm, Below.refl _ _⟩
end
section
attribute [local go_sem ↓] Rq_execLoad Rq_execStore

attribute [local go_sem] Rq_load Rq_store loL_drew okL_drew there_sc World.there_drew

attribute [local go_sem ↓] Br_execLoad Br_execStore

attribute [local go_sem] Br_load Br_store loL_drew okL_drew there_sc World.there_drew

set_option maxRecDepth 8000 in
set_option maxHeartbeats 1000000 in
theorem rqBare_any (x : Rqt) (cv tv : Value) (w : World) : Calls Tryz.prog 73 #[.agg #[.string x.key, .int .i64 x.k, .int .i64 x.d, .int .u64 x.tk, .int .i64 x.c, .int .i64 x.st, .string x.loc, cv, tv, .int .i64 x.am, .int .i64 x.fr, .int .i64 x.tt]] w fun e w' => e = .returned (.agg #[.int .i64 x.k, .string x.key, .string x.loc, .int .i64 x.d, .int .i64 x.c, .int .u64 x.tk, .int .i64 x.st, .int .i64 x.am, .int .i64 x.fr, .int .i64 x.tt]) ∧ Below w.heap.size w w' := by
  have hb1 := (Below.refl w.heap.size w).alloc (Nat.le_refl _) (.cells #[.string x.key, .int .i64 x.k, .int .i64 x.d, .int .u64 x.tk, .int .i64 x.c, .int .i64 x.st, .string x.loc, cv, tv, .int .i64 x.am, .int .i64 x.fr, .int .i64 x.tt] 57 (0, 0))
  have hr1 := new_rowW w (.cells #[.string x.key, .int .i64 x.k, .int .i64 x.d, .int .u64 x.tk, .int .i64 x.c, .int .i64 x.st, .string x.loc, cv, tv, .int .i64 x.am, .int .i64 x.fr, .int .i64 x.tt] 57 (0, 0)) _ rfl
  have hb2 := (Below.refl (w.alloc (.cells #[.string x.key, .int .i64 x.k, .int .i64 x.d, .int .u64 x.tk, .int .i64 x.c, .int .i64 x.st, .string x.loc, cv, tv, .int .i64 x.am, .int .i64 x.fr, .int .i64 x.tt] 57 (0, 0))).heap.size (w.alloc (.cells #[.string x.key, .int .i64 x.k, .int .i64 x.d, .int .u64 x.tk, .int .i64 x.c, .int .i64 x.st, .string x.loc, cv, tv, .int .i64 x.am, .int .i64 x.fr, .int .i64 x.tt] 57 (0, 0)))).alloc (Nat.le_refl _) (.cells #[.int .i64 0, .string ⟨#[]⟩, .string ⟨#[]⟩, .int .i64 0, .int .i64 0, .int .u64 0, .int .i64 0, .int .i64 0, .int .i64 0, .int .i64 0] 129 (0, 0))
  have hr2 := new_rowW (w.alloc (.cells #[.string x.key, .int .i64 x.k, .int .i64 x.d, .int .u64 x.tk, .int .i64 x.c, .int .i64 x.st, .string x.loc, cv, tv, .int .i64 x.am, .int .i64 x.fr, .int .i64 x.tt] 57 (0, 0))) (.cells #[.int .i64 0, .string ⟨#[]⟩, .string ⟨#[]⟩, .int .i64 0, .int .i64 0, .int .u64 0, .int .i64 0, .int .i64 0, .int .i64 0, .int .i64 0] 129 (0, 0)) _ rfl
  have HR := Lib.hid ((hb2.block _ (block_lt hr1)).trans hr1)
  have hsz : (w.alloc (.cells #[.string x.key, .int .i64 x.k, .int .i64 x.d, .int .u64 x.tk, .int .i64 x.c, .int .i64 x.st, .string x.loc, cv, tv, .int .i64 x.am, .int .i64 x.fr, .int .i64 x.tt] 57 (0, 0))).heap.size = w.heap.size + 1 := by simp
  rw [hsz] at hr2
  have HB := Lib.hid (hb1.trans (hb2.mono hb1.size))
  have HZ := Lib.hid hr2
  clear hb1 hb2 hr1 hr2 hsz
  have kc := fun j => cell_of_row _ w.heap.size j _ _ _ HR.out
  have th := there_rowT (n := 10) HZ.out rfl
  have h1n : ([.int .i64 x.k, .string x.key, .string x.loc, .int .i64 x.d, .int .i64 x.c, .int .u64 x.tk, .int .i64 x.st, .int .i64 x.am, .int .i64 x.fr, .int .i64 x.tt] : List Value).length = 10 := rfl
  have h1c : ([.int .i64 x.k, .string x.key, .string x.loc, .int .i64 x.d, .int .i64 x.c, .int .u64 x.tk, .int .i64 x.st, .int .i64 x.am, .int .i64 x.fr, .int .i64 x.tt] : List Value).all (·.oneCell') = true := rfl
  go_enter Tryz.func73, Tryz.ntmps73
  go_wp2_with fail
  have hr6 := setCells_rowT (g := w.heap.size + 1) (cs := [.int .i64 x.k, .string x.key, .string x.loc, .int .i64 x.d, .int .i64 x.c, .int .u64 x.tk, .int .i64 x.st, .int .i64 x.am, .int .i64 x.fr, .int .i64 x.tt]) HZ.out rfl
  (try simp only [Exit.inBlock, Exit.then])
  refine bodyPost_ret (results_cellT rfl _ _ (w.heap.size + 1) rfl (loadBr hr6 rfl)) rfl ?_
  exact ⟨rfl, Only.below HB.out (Nat.le_succ _) HB.out.size ((Only.refl (w.heap.size + 1) _).setCells 0 _)⟩

set_option maxRecDepth 8000 in
set_option maxHeartbeats 2000000 in
theorem rqSame_any (a b : Rqt) (p q p' q' : Option Addr) (n cap m cap2 n' cap' m' cap2' : Nat) (w : World) (ha : LS Cpn.cells 6 w (.slice p n cap) a.cs) (hat : LS Txx.cells 2 w (.slice q m cap2) a.xs) (hb : LS Cpn.cells 6 w (.slice p' n' cap') b.cs) (hbt : LS Txx.cells 2 w (.slice q' m' cap2') b.xs) :
    Calls Tryz.prog 27 #[.agg #[.string a.key, .int .i64 a.k, .int .i64 a.d, .int .u64 a.tk, .int .i64 a.c, .int .i64 a.st, .string a.loc, .slice p n cap, .slice q m cap2, .int .i64 a.am, .int .i64 a.fr, .int .i64 a.tt], .agg #[.string b.key, .int .i64 b.k, .int .i64 b.d, .int .u64 b.tk, .int .i64 b.c, .int .i64 b.st, .string b.loc, (.slice p' n' cap'), (.slice q' m' cap2'), .int .i64 b.am, .int .i64 b.fr, .int .i64 b.tt]] w fun e w' => e = .returned (.bool (eqRq a b)) ∧ Below w.heap.size w w' := by
  have hb1 := (Below.refl w.heap.size w).alloc (Nat.le_refl _) (.cells #[.string a.key, .int .i64 a.k, .int .i64 a.d, .int .u64 a.tk, .int .i64 a.c, .int .i64 a.st, .string a.loc, (.slice p n cap), (.slice q m cap2), .int .i64 a.am, .int .i64 a.fr, .int .i64 a.tt] 57 (0, 0))
  have hr1 := new_rowW w (.cells #[.string a.key, .int .i64 a.k, .int .i64 a.d, .int .u64 a.tk, .int .i64 a.c, .int .i64 a.st, .string a.loc, (.slice p n cap), (.slice q m cap2), .int .i64 a.am, .int .i64 a.fr, .int .i64 a.tt] 57 (0, 0)) _ rfl
  have hb2 := (Below.refl (w.alloc (.cells #[.string a.key, .int .i64 a.k, .int .i64 a.d, .int .u64 a.tk, .int .i64 a.c, .int .i64 a.st, .string a.loc, (.slice p n cap), (.slice q m cap2), .int .i64 a.am, .int .i64 a.fr, .int .i64 a.tt] 57 (0, 0))).heap.size (w.alloc (.cells #[.string a.key, .int .i64 a.k, .int .i64 a.d, .int .u64 a.tk, .int .i64 a.c, .int .i64 a.st, .string a.loc, (.slice p n cap), (.slice q m cap2), .int .i64 a.am, .int .i64 a.fr, .int .i64 a.tt] 57 (0, 0)))).alloc (Nat.le_refl _) (.cells #[.string b.key, .int .i64 b.k, .int .i64 b.d, .int .u64 b.tk, .int .i64 b.c, .int .i64 b.st, .string b.loc, (.slice p' n' cap'), (.slice q' m' cap2'), .int .i64 b.am, .int .i64 b.fr, .int .i64 b.tt] 57 (0, 0))
  have hr2 := new_rowW (w.alloc (.cells #[.string a.key, .int .i64 a.k, .int .i64 a.d, .int .u64 a.tk, .int .i64 a.c, .int .i64 a.st, .string a.loc, (.slice p n cap), (.slice q m cap2), .int .i64 a.am, .int .i64 a.fr, .int .i64 a.tt] 57 (0, 0))) (.cells #[.string b.key, .int .i64 b.k, .int .i64 b.d, .int .u64 b.tk, .int .i64 b.c, .int .i64 b.st, .string b.loc, (.slice p' n' cap'), (.slice q' m' cap2'), .int .i64 b.am, .int .i64 b.fr, .int .i64 b.tt] 57 (0, 0)) _ rfl
  have HRA := Lib.hid ((hb2.block _ (block_lt hr1)).trans hr1)
  have hsz : (w.alloc (.cells #[.string a.key, .int .i64 a.k, .int .i64 a.d, .int .u64 a.tk, .int .i64 a.c, .int .i64 a.st, .string a.loc, (.slice p n cap), (.slice q m cap2), .int .i64 a.am, .int .i64 a.fr, .int .i64 a.tt] 57 (0, 0))).heap.size = w.heap.size + 1 := by simp
  rw [hsz] at hr2
  have HB := Lib.hid (hb1.trans (hb2.mono hb1.size))
  have HRB := Lib.hid hr2
  clear hb1 hb2 hr1 hr2 hsz
  have HLA := Lib.hid ha; have HTA := Lib.hid hat; have HLB := Lib.hid hb; have HTB := Lib.hid hbt
  clear ha hat hb hbt
  obtain ⟨q1, h1⟩ : ∃ q, bareB a b = q := ⟨_, rfl⟩
  obtain ⟨q2, h2⟩ : ∃ q, decide (a.cs = b.cs) = q := ⟨_, rfl⟩
  obtain ⟨q3, h3⟩ : ∃ q, decide (a.xs = b.xs) = q := ⟨_, rfl⟩
  have HE := Lib.hid (fun W => eqlBr a b W)
  have HG := guardBr
  rw [h1] at HE
  have heq := HE.out
  have HEQ : Hid (eqRq a b = (q1 && q2 && q3)) := Lib.hid (by unfold eqRq; rw [h1, h2, h3])
  rw [HEQ.out]
  have HQ2 := Lib.hid h2; have HQ3 := Lib.hid h3
  clear h1 h2 h3 HE HEQ
  go_enter Tryz.func27, Tryz.ntmps27
  go_upto_region 2 with fail
  generalize (w.alloc (.cells #[.string a.key, .int .i64 a.k, .int .i64 a.d, .int .u64 a.tk, .int .i64 a.c, .int .i64 a.st, .string a.loc, (.slice p n cap), (.slice q m cap2), .int .i64 a.am, .int .i64 a.fr, .int .i64 a.tt] 57 (0, 0))).alloc (.cells #[.string b.key, .int .i64 b.k, .int .i64 b.d, .int .u64 b.tk, .int .i64 b.c, .int .i64 b.st, .string b.loc, (.slice p' n' cap'), (.slice q' m' cap2'), .int .i64 b.am, .int .i64 b.fr, .int .i64 b.tt] 57 (0, 0)) = w2 at *
  have f1 := fun (u : Later w2) => (row_loT 12 (g := w.heap.size) ((u.prop.block _ (block_lt HRA.out)).trans HRA.out) rfl rfl).1
  have f2 := fun (u : Later w2) => (row_loT 12 (g := w.heap.size) ((u.prop.block _ (block_lt HRA.out)).trans HRA.out) rfl rfl).2
  have f3 := fun (u : Later w2) => (row_loT 12 (g := w.heap.size + 1) ((u.prop.block _ (block_lt HRB.out)).trans HRB.out) rfl rfl).1
  have f4 := fun (u : Later w2) => (row_loT 12 (g := w.heap.size + 1) ((u.prop.block _ (block_lt HRB.out)).trans HRB.out) rfl rfl).2
  have c1 := fun (u : Later w2) => (cell_of_row u.val w.heap.size 7 _ _ _ ((u.prop.block _ (block_lt HRA.out)).trans HRA.out))
  have c2 := fun (u : Later w2) => (cell_of_row u.val w.heap.size 8 _ _ _ ((u.prop.block _ (block_lt HRA.out)).trans HRA.out))
  have c3 := fun (u : Later w2) => (cell_of_row u.val (w.heap.size + 1) 7 _ _ _ ((u.prop.block _ (block_lt HRB.out)).trans HRB.out))
  have c4 := fun (u : Later w2) => (cell_of_row u.val (w.heap.size + 1) 8 _ _ _ ((u.prop.block _ (block_lt HRB.out)).trans HRB.out))
  have HCE := Lib.hid (fun (u : Later w2) => equalCp_any a.cs b.cs q2 (by rw [← HQ2.out]; simp) p p' n n' cap cap' u.val (HLA.out.below (HB.out.trans (u.prop.mono HB.out.size))) (HLB.out.below (HB.out.trans (u.prop.mono HB.out.size))))
  have HTE := Lib.hid (fun (u : Later w2) => equalTx_any a.xs b.xs q3 (by rw [← HQ3.out]; simp) q q' m m' cap2 cap2' u.val (HTA.out.below (HB.out.trans (u.prop.mono HB.out.size))) (HTB.out.below (HB.out.trans (u.prop.mono HB.out.size))))
  have HBA := Lib.hid (fun (u : Later w2) => rqBare_any a (.slice p n cap) (.slice q m cap2) u.val)
  have HBB := Lib.hid (fun (u : Later w2) => rqBare_any b (.slice p' n' cap') (.slice q' m' cap2') u.val)
  clear HRA HRB HLA HTA HLB HTB HQ2 HQ3
  cases q1
  all_goals cases q2
  all_goals
    refine wp_region_later (by kernel_rfl) (by kernel_rfl) ?_
    repeat (go_big_quiet_step (first | (go_at_call 74; exact later_call (HCE.out _)) | (go_at_call 75; exact later_call (HTE.out _)) | (go_at_call 73; first | (with_reducible exact later_call (HBA.out _)) | exact later_call (HBB.out _))))
    refine wpQuiet_nil ?_
    rintro w3 ⟨u, rfl⟩
    go_wp2
    go_ret
    exact ⟨rfl, HB.out.trans (u.prop.mono HB.out.size)⟩
end
end Go.Proofs.YtbmphlpmipkpcaaGreat
