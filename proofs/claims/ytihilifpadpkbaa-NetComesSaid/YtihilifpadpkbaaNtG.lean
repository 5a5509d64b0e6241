/- Letters and held letters compared; lists of them. -/
import Derived.Test.YtihilifpadpkbaaNtC
import Derived.BigRegion
set_option linter.unusedVariables false
set_option linter.unusedSimpArgs false
namespace Go.Proofs.Ytihilifpadpkbaa
open Go.RowKit

theorem Lt_execLoad (ρ : Operand → Value) (dst : Option Tmp) (x : Operand) (ty : TypeId) (pos : String) (after : Array Edge) (guard : Option (Nat × Bool)) :
    execOp ρ { dst, op := .load 35 x, type := ty, pos, after, guard } = recLoad 35 (ρ x) := rfl
theorem Lt_execStore (ρ : Operand → Value) (dst : Option Tmp) (x y : Operand) (ty : TypeId) (pos : String) (after : Array Edge) (guard : Option (Nat × Bool)) :
    execOp ρ { dst, op := .store 35 x y, type := ty, pos, after, guard } = recStore 35 (ρ x) (ρ y) := rfl
theorem Lt_load (w : World) (b o : Nat) (h : okL 15 w b o) : (recLoad 35 (.pointer (some ⟨b, o, none⟩))).run Try.prog w = .ok (.value (.agg (loL 15 w b o).toArray)) w := by
  unfold recLoad
  rw [Sem.run_bind, run_load_rec 15 Try.underlying35 rfl (by kernel_rfl) w b o h]
  rfl
theorem Lt_store (w : World) (b o : Nat) (cs : List Value) (ht : w.there b o 15) (hn : cs.length = 15) (h1 : cs.all (·.oneCell') = true) :
    (recStore 35 (.pointer (some ⟨b, o, none⟩)) (.agg cs.toArray)).run Try.prog w = .ok .skip (w.setCells b o cs) := by
  unfold recStore
  rw [Sem.run_bind, run_store_rec 15 (by kernel_rfl) w b o cs ht hn h1]
  rfl

theorem Hd_execLoad (ρ : Operand → Value) (dst : Option Tmp) (x : Operand) (ty : TypeId) (pos : String) (after : Array Edge) (guard : Option (Nat × Bool)) :
    execOp ρ { dst, op := .load 69 x, type := ty, pos, after, guard } = recLoad 69 (ρ x) := rfl
theorem Hd_execStore (ρ : Operand → Value) (dst : Option Tmp) (x y : Operand) (ty : TypeId) (pos : String) (after : Array Edge) (guard : Option (Nat × Bool)) :
    execOp ρ { dst, op := .store 69 x y, type := ty, pos, after, guard } = recStore 69 (ρ x) (ρ y) := rfl
theorem Hd_load (w : World) (b o : Nat) (h : okL 16 w b o) : (recLoad 69 (.pointer (some ⟨b, o, none⟩))).run Try.prog w = .ok (.value (.agg (loL 16 w b o).toArray)) w := by
  unfold recLoad
  rw [Sem.run_bind, run_load_rec 16 Try.underlying69 rfl (by kernel_rfl) w b o h]
  rfl
theorem Hd_store (w : World) (b o : Nat) (cs : List Value) (ht : w.there b o 16) (hn : cs.length = 16) (h1 : cs.all (·.oneCell') = true) :
    (recStore 69 (.pointer (some ⟨b, o, none⟩)) (.agg cs.toArray)).run Try.prog w = .ok .skip (w.setCells b o cs) := by
  unfold recStore
  rw [Sem.run_bind, run_store_rec 16 (by kernel_rfl) w b o cs ht hn h1]
  rfl

def Lt.eqB (x y : Lt) : Bool := x.f == y.f && (x.t == y.t && (x.n == y.n && (x.a == y.a && (x.k == y.k && (x.tk == y.tk && (x.c == y.c && (x.d == y.d && (x.co == y.co && (x.fl == y.fl && (x.dy == y.dy && (x.va == y.va && (x.st == y.st && (x.ho == y.ho && (x.nx == y.nx))))))))))))))
theorem Lt.eqB_iff (x y : Lt) : Lt.eqB x y = true ↔ x = y := by
  unfold Lt.eqB
  constructor
  · intro h
    simp only [Bool.and_eq_true, beq_iff_eq] at h
    cases x; cases y; simp_all
  · rintro rfl
    simp
set_option maxRecDepth 10000 in
set_option maxHeartbeats 1000000 in
theorem eqInLt (x y : Lt) (w : World) : (Op.equalIn 10000 35 (.agg x.cells.toArray) (.agg y.cells.toArray)).run Try.prog w = .ok (Lt.eqB x y) w := by
  have hS : Try.prog.underlying 35 = some (.struct (Try.prog.fieldsOf 35)) := by kernel_rfl
  have hp : Try.prog.stoodInHeld 35 = false := by kernel_rfl
  have hS0 : Try.prog.underlying 31 = some (.struct (Try.prog.fieldsOf 31)) := by kernel_rfl
  have hp0 : Try.prog.stoodInHeld 31 = false := by kernel_rfl
  have hS1 : Try.prog.underlying 33 = some (.struct (Try.prog.fieldsOf 33)) := by kernel_rfl
  have hp1 : Try.prog.stoodInHeld 33 = false := by kernel_rfl
  unfold Lt.eqB Lt.cells
  rw [show (10000 : Nat) = 9999 + 1 from rfl, run_equalIn_agg w 9999 35 _ _ hS hp]
  obtain ⟨dd, hd⟩ : ∃ dd : Nat, 9999 = dd + 1 + 1 + 1 := ⟨9996, rfl⟩
  rw [hd]
  have hC0 : ∀ (a b : Array Value), (Op.equalIn (dd + 1 + 1) 31 (.agg a) (.agg b)).run Try.prog w = (Op.eqFields (dd + 1) a b (Try.prog.fieldsOf 31).toList).run Try.prog w := fun a b => run_equalIn_agg w (dd + 1) 31 a b hS0 hp0
  have hC1 : ∀ (a b : Array Value), (Op.equalIn (dd + 1 + 1 + 1) 33 (.agg a) (.agg b)).run Try.prog w = (Op.eqFields (dd + 1 + 1) a b (Try.prog.fieldsOf 33).toList).run Try.prog w := fun a b => run_equalIn_agg w (dd + 1 + 1) 33 a b hS1 hp1
  simp only [Program.fieldsOf, Try.underlying35]
  simp only [Program.fieldsOf, Try.underlying31] at hC0
  simp only [Program.fieldsOf, Try.underlying33] at hC1
  clear hd hS hp hS0 hp0 hS1 hp1
  go_simp
  simp only [ite_okS, Bool.and_true]
  rfl
theorem guardeqlLt (x y : Operand) (xs ys : Array Value) (w : World) : (eqGuard .eql 35 x y (.agg xs) (.agg ys)).run Try.prog w = .ok () w := run_eqGuard_agg w _ _ _ _ _ _ (by kernel_rfl)
theorem eqlLt (x y : Lt) (w : World) : (binOp .eql 35 (.agg x.cells.toArray) (.agg y.cells.toArray)).run Try.prog w = .ok (.bool (Lt.eqB x y)) w := by
  rw [run_eql_struct, eqInLt]
  rfl
theorem guardneqLt (x y : Operand) (xs ys : Array Value) (w : World) : (eqGuard .neq 35 x y (.agg xs) (.agg ys)).run Try.prog w = .ok () w := run_eqGuard_agg w _ _ _ _ _ _ (by kernel_rfl)
theorem neqLt (x y : Lt) (w : World) : (binOp .neq 35 (.agg x.cells.toArray) (.agg y.cells.toArray)).run Try.prog w = .ok (.bool (!Lt.eqB x y)) w := by
  rw [run_neq_struct, eqInLt]
  rfl

def Hd.eqB (x y : Hd) : Bool := x.l.f == y.l.f && (x.l.t == y.l.t && (x.l.n == y.l.n && (x.l.a == y.l.a && (x.l.k == y.l.k && (x.l.tk == y.l.tk && (x.l.c == y.l.c && (x.l.d == y.l.d && (x.l.co == y.l.co && (x.l.fl == y.l.fl && (x.l.dy == y.l.dy && (x.l.va == y.l.va && (x.l.st == y.l.st && (x.l.ho == y.l.ho && (x.l.nx == y.l.nx && (x.age == y.age)))))))))))))))
theorem Hd.eqB_iff (x y : Hd) : Hd.eqB x y = true ↔ x = y := by
  unfold Hd.eqB
  constructor
  · intro h
    simp only [Bool.and_eq_true, beq_iff_eq] at h
    obtain ⟨l, a⟩ := x; obtain ⟨l', a'⟩ := y; cases l; cases l'; simp_all
  · rintro rfl
    simp
set_option maxRecDepth 10000 in
set_option maxHeartbeats 1000000 in
theorem eqInHd (x y : Hd) (w : World) : (Op.equalIn 10000 69 (.agg x.cells.toArray) (.agg y.cells.toArray)).run Try.prog w = .ok (Hd.eqB x y) w := by
  have hS : Try.prog.underlying 69 = some (.struct (Try.prog.fieldsOf 69)) := by kernel_rfl
  have hp : Try.prog.stoodInHeld 69 = false := by kernel_rfl
  have hS0 : Try.prog.underlying 31 = some (.struct (Try.prog.fieldsOf 31)) := by kernel_rfl
  have hp0 : Try.prog.stoodInHeld 31 = false := by kernel_rfl
  have hS1 : Try.prog.underlying 33 = some (.struct (Try.prog.fieldsOf 33)) := by kernel_rfl
  have hp1 : Try.prog.stoodInHeld 33 = false := by kernel_rfl
  have hS2 : Try.prog.underlying 35 = some (.struct (Try.prog.fieldsOf 35)) := by kernel_rfl
  have hp2 : Try.prog.stoodInHeld 35 = false := by kernel_rfl
  unfold Hd.eqB Hd.cells
  rw [show (10000 : Nat) = 9999 + 1 from rfl, run_equalIn_agg w 9999 69 _ _ hS hp]
  obtain ⟨dd, hd⟩ : ∃ dd : Nat, 9999 = dd + 1 + 1 + 1 + 1 := ⟨9995, rfl⟩
  rw [hd]
  have hC0 : ∀ (a b : Array Value), (Op.equalIn (dd + 1 + 1) 31 (.agg a) (.agg b)).run Try.prog w = (Op.eqFields (dd + 1) a b (Try.prog.fieldsOf 31).toList).run Try.prog w := fun a b => run_equalIn_agg w (dd + 1) 31 a b hS0 hp0
  have hC1 : ∀ (a b : Array Value), (Op.equalIn (dd + 1 + 1 + 1) 33 (.agg a) (.agg b)).run Try.prog w = (Op.eqFields (dd + 1 + 1) a b (Try.prog.fieldsOf 33).toList).run Try.prog w := fun a b => run_equalIn_agg w (dd + 1 + 1) 33 a b hS1 hp1
  have hC2 : ∀ (a b : Array Value), (Op.equalIn (dd + 1 + 1 + 1 + 1) 35 (.agg a) (.agg b)).run Try.prog w = (Op.eqFields (dd + 1 + 1 + 1) a b (Try.prog.fieldsOf 35).toList).run Try.prog w := fun a b => run_equalIn_agg w (dd + 1 + 1 + 1) 35 a b hS2 hp2
  simp only [Program.fieldsOf, Try.underlying69]
  simp only [Program.fieldsOf, Try.underlying31] at hC0
  simp only [Program.fieldsOf, Try.underlying33] at hC1
  simp only [Program.fieldsOf, Try.underlying35] at hC2
  clear hd hS hp hS0 hp0 hS1 hp1 hS2 hp2
  go_simp
  simp only [ite_okS, Bool.and_true]
  rfl
theorem guardeqlHd (x y : Operand) (xs ys : Array Value) (w : World) : (eqGuard .eql 69 x y (.agg xs) (.agg ys)).run Try.prog w = .ok () w := run_eqGuard_agg w _ _ _ _ _ _ (by kernel_rfl)
theorem eqlHd (x y : Hd) (w : World) : (binOp .eql 69 (.agg x.cells.toArray) (.agg y.cells.toArray)).run Try.prog w = .ok (.bool (Hd.eqB x y)) w := by
  rw [run_eql_struct, eqInHd]
  rfl
theorem guardneqHd (x y : Operand) (xs ys : Array Value) (w : World) : (eqGuard .neq 69 x y (.agg xs) (.agg ys)).run Try.prog w = .ok () w := run_eqGuard_agg w _ _ _ _ _ _ (by kernel_rfl)
theorem neqHd (x y : Hd) (w : World) : (binOp .neq 69 (.agg x.cells.toArray) (.agg y.cells.toArray)).run Try.prog w = .ok (.bool (!Hd.eqB x y)) w := by
  rw [run_neq_struct, eqInHd]
  rfl
attribute [local go_sem ↓] Lt_execLoad Lt_execStore
attribute [local go_sem] Lt_load Lt_store loL_drew okL_drew there_sc World.there_drew

set_option maxRecDepth 4000 in
set_option maxHeartbeats 1000000 in
theorem rSameLt_any (l m : List Lt) (bv : Bool) (hbv : bv = true ↔ l = m) (p p' : Option Addr) (n n' cap cap' : Nat) (w : World) (hs : LS Lt.cells 15 w (.slice p n cap) l) (hs' : LS Lt.cells 15 w (.slice p' n' cap') m) :
    Calls Try.prog 26 #[.slice p n cap, .slice p' n' cap'] w fun e w' => e = .returned (.bool bv) ∧ Below w.heap.size w w' := by
  have HL := Lib.hid hs.length
  have HL' := Lib.hid hs'.length
  have HS := Lib.hid hs; have HS' := Lib.hid hs'; have HBV := Lib.hid hbv
  have hmax : n ≤ 9223372036854775807 := by have h1 := HL.out.2.1; have h2 := HL.out.2.2; simp only [maxLen] at h2; omega
  have hmax' : n' ≤ 9223372036854775807 := by have h1 := HL'.out.2.1; have h2 := HL'.out.2.2; simp only [maxLen] at h2; omega
  clear hs hs' hbv
  by_cases hnn : n = n'
  · subst hnn
    go_enter Try.func26, Try.ntmps26
    go_wp2
    go_loopw [5] (fun i wr => ∃ k : Nat, k ≤ n ∧ i = .int .i64 k ∧ Below w.heap.size w wr ∧ l.take k = m.take k) (fun i _ => n - (intOf i).toNat)
    case atStart => exact ⟨0, Nat.zero_le _, rfl, Below.refl _ _, rfl⟩
    case round =>
      obtain ⟨k, hk, rfl, hbw, heq⟩ := hrel
      have HBW := Lib.hid hbw; have HEQ := Lib.hid heq
      clear heq
      by_cases hlt : k < n
      · obtain ⟨x, hx⟩ : ∃ x, l[k]? = some x := ⟨_, List.getElem?_eq_getElem (by have := HL.out.1; omega)⟩
        obtain ⟨y, hy⟩ : ∃ y, m[k]? = some y := ⟨_, List.getElem?_eq_getElem (by have := HL'.out.1; omega)⟩
        have HX := Lib.hid hx; have HY := Lib.hid hy
        obtain ⟨b, o, rfl, hb, hr⟩ := (HS.out.below hbw).at hx
        obtain ⟨b', o', rfl, hb', hr'⟩ := (HS'.out.below hbw).at hy
        obtain ⟨f1, f2⟩ := loL_of hr (Lt.cells_length x)
        obtain ⟨f3, f4⟩ := loL_of hr' (Lt.cells_length y)
        obtain ⟨q, hq⟩ : ∃ q, Lt.eqB x y = q := ⟨_, rfl⟩
        have hE : ∀ W, (Op.equalIn 10000 35 (.agg x.cells.toArray) (.agg y.cells.toArray)).run Try.prog W = .ok q W := fun W => by rw [← hq]; exact eqInLt x y W
        have HQ := Lib.hid (hq ▸ Lt.eqB_iff x y : (q = true ↔ x = y))
        have hG := guardneqLt
        have hG2 := guardeqlLt
        generalize x.cells = cx at *
        generalize y.cells = cy at *
        clear hx hy hr hr' hbw hq
        cases q
        · go_wp2_with fail
          go_region
          go_wp2
          go_ret
          refine ⟨ret_bool ?_, HBW.out.drew⟩
          cases hb : bv
          · rfl
          · have h1 := HBV.out.1 hb
            have h2 := HX.out
            rw [h1, HY.out] at h2
            injection h2 with h2
            exact absurd (HQ.out.2 h2.symm) (by simp)
        · go_wp2_with fail
          go_region
          go_wp2
          go_roundw
          case rel => exact ⟨k + 1, by omega, by go_num, HBW.out.drew, by rw [List.take_add_one, List.take_add_one, HX.out, HY.out, HEQ.out, HQ.out.1 (by trivial)]⟩
          case measure => simp [intOf]; omega
      · obtain rfl : k = n := by omega
        have HF : Hid (bv = true) := Lib.hid (HBV.out.2 (by
          have := HEQ.out
          rwa [List.take_of_length_le (by have := HL.out.1; omega), List.take_of_length_le (by have := HL'.out.1; omega)] at this))
        go_wp2
        go_ret
        exact ⟨ret_bool HF.out.symm, HBW.out⟩
  · have HF : Hid (bv = false) := Lib.hid (by
      cases hb : bv
      · rfl
      · exact absurd (by rw [HL.out.1, HL'.out.1, HBV.out.1 hb]) hnn)
    have hnni : ¬ (n : Int) = (n' : Int) := by omega
    go_enter Try.func26, Try.ntmps26
    go_wp2
    go_ret
    exact ⟨ret_bool HF.out.symm, Below.refl _ _⟩
end Go.Proofs.Ytihilifpadpkbaa
