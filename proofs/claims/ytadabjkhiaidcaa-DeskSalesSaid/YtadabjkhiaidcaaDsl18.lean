/- Contract: are two tickets the same (the reference's Same, 13). -/
import Derived.Test.YtadabjkhiaidcaaDsl17
import Derived.Deep.DeepCutAuto
import Derived.Deep.Cut
import Derived.Deep.CutRange

set_option linter.unusedVariables false
set_option linter.unusedSimpArgs false
namespace Go.Proofs.Ytadabjkhiaidcaa
open Go.RowKit

theorem ite_okS {p : Prop} [Decidable p] (a : Bool) (w : World) : (if p then Result.ok a w else Result.ok false w) = Result.ok (decide p && a) w := by split <;> simp [*]

theorem Cp_execLoad (ρ : Operand → Value) (dst : Option Tmp) (x : Operand) (ty : TypeId) (pos : String) (after : Array Edge) (guard : Option (Nat × Bool)) :
    execOp ρ { dst, op := .load 37 x, type := ty, pos, after, guard } = recLoad 37 (ρ x) := rfl
theorem Cp_execStore (ρ : Operand → Value) (dst : Option Tmp) (x y : Operand) (ty : TypeId) (pos : String) (after : Array Edge) (guard : Option (Nat × Bool)) :
    execOp ρ { dst, op := .store 37 x y, type := ty, pos, after, guard } = recStore 37 (ρ x) (ρ y) := rfl
theorem Cp_load (w : World) (b o : Nat) (h : okL 6 w b o) : (recLoad 37 (.pointer (some ⟨b, o, none⟩))).run Try.prog w = .ok (.value (.agg (loL 6 w b o).toArray)) w := by
  unfold recLoad
  rw [Sem.run_bind, run_load_rec 6 Try.underlying37 rfl (by kernel_rfl) w b o h]
  rfl
theorem Cp_store (w : World) (b o : Nat) (cs : List Value) (ht : w.there b o 6) (hn : cs.length = 6) (h1 : cs.all (·.oneCell') = true) :
    (recStore 37 (.pointer (some ⟨b, o, none⟩)) (.agg cs.toArray)).run Try.prog w = .ok .skip (w.setCells b o cs) := by
  unfold recStore
  rw [Sem.run_bind, run_store_rec 6 (by kernel_rfl) w b o cs ht hn h1]
  rfl

def Cpn.eqB (x y : Cpn) : Bool := x.fl == y.fl && (x.dy == y.dy && (x.va == y.va && (x.st == y.st && (x.ho == y.ho && (x.nx == y.nx)))))
theorem Cpn.eqB_iff (x y : Cpn) : Cpn.eqB x y = true ↔ x = y := by
  unfold Cpn.eqB
  constructor
  · intro h
    simp only [Bool.and_eq_true, beq_iff_eq] at h
    cases x; cases y; simp_all
  · rintro rfl
    simp
set_option maxRecDepth 10000 in
set_option maxHeartbeats 1000000 in
theorem eqInCp (x y : Cpn) (w : World) : (Op.equalIn 10000 37 (.agg x.cells.toArray) (.agg y.cells.toArray)).run Try.prog w = .ok (Cpn.eqB x y) w := by
  have hS : Try.prog.underlying 37 = some (.struct (Try.prog.fieldsOf 37)) := by kernel_rfl
  have hp : Try.prog.stoodInHeld 37 = false := by kernel_rfl
  unfold Cpn.eqB Cpn.cells
  rw [show (10000 : Nat) = 9999 + 1 from rfl, run_equalIn_agg w 9999 37 _ _ hS hp]
  simp only [Program.fieldsOf, Try.underlying37]
  clear hS hp
  go_simp
  simp only [ite_okS, Bool.and_true]
  rfl
theorem guardeqlCp (x y : Operand) (xs ys : Array Value) (w : World) : (eqGuard .eql 37 x y (.agg xs) (.agg ys)).run Try.prog w = .ok () w := run_eqGuard_agg w _ _ _ _ _ _ (by kernel_rfl)
theorem eqlCp (x y : Cpn) (w : World) : (binOp .eql 37 (.agg x.cells.toArray) (.agg y.cells.toArray)).run Try.prog w = .ok (.bool (Cpn.eqB x y)) w := by
  rw [run_eql_struct, eqInCp]
  rfl
theorem guardneqCp (x y : Operand) (xs ys : Array Value) (w : World) : (eqGuard .neq 37 x y (.agg xs) (.agg ys)).run Try.prog w = .ok () w := run_eqGuard_agg w _ _ _ _ _ _ (by kernel_rfl)
theorem neqCp (x y : Cpn) (w : World) : (binOp .neq 37 (.agg x.cells.toArray) (.agg y.cells.toArray)).run Try.prog w = .ok (.bool (!Cpn.eqB x y)) w := by
  rw [run_neq_struct, eqInCp]
  rfl

theorem Tx_execLoad (ρ : Operand → Value) (dst : Option Tmp) (x : Operand) (ty : TypeId) (pos : String) (after : Array Edge) (guard : Option (Nat × Bool)) :
    execOp ρ { dst, op := .load 56 x, type := ty, pos, after, guard } = recLoad 56 (ρ x) := rfl
theorem Tx_execStore (ρ : Operand → Value) (dst : Option Tmp) (x y : Operand) (ty : TypeId) (pos : String) (after : Array Edge) (guard : Option (Nat × Bool)) :
    execOp ρ { dst, op := .store 56 x y, type := ty, pos, after, guard } = recStore 56 (ρ x) (ρ y) := rfl
theorem Tx_load (w : World) (b o : Nat) (h : okL 2 w b o) : (recLoad 56 (.pointer (some ⟨b, o, none⟩))).run Try.prog w = .ok (.value (.agg (loL 2 w b o).toArray)) w := by
  unfold recLoad
  rw [Sem.run_bind, run_load_rec 2 Try.underlying56 rfl (by kernel_rfl) w b o h]
  rfl
theorem Tx_store (w : World) (b o : Nat) (cs : List Value) (ht : w.there b o 2) (hn : cs.length = 2) (h1 : cs.all (·.oneCell') = true) :
    (recStore 56 (.pointer (some ⟨b, o, none⟩)) (.agg cs.toArray)).run Try.prog w = .ok .skip (w.setCells b o cs) := by
  unfold recStore
  rw [Sem.run_bind, run_store_rec 2 (by kernel_rfl) w b o cs ht hn h1]
  rfl

def Txx.eqB (x y : Txx) : Bool := x.cd == y.cd && (x.am == y.am)
theorem Txx.eqB_iff (x y : Txx) : Txx.eqB x y = true ↔ x = y := by
  unfold Txx.eqB
  constructor
  · intro h
    simp only [Bool.and_eq_true, beq_iff_eq] at h
    cases x; cases y; simp_all
  · rintro rfl
    simp
set_option maxRecDepth 10000 in
set_option maxHeartbeats 1000000 in
theorem eqInTx (x y : Txx) (w : World) : (Op.equalIn 10000 56 (.agg x.cells.toArray) (.agg y.cells.toArray)).run Try.prog w = .ok (Txx.eqB x y) w := by
  have hS : Try.prog.underlying 56 = some (.struct (Try.prog.fieldsOf 56)) := by kernel_rfl
  have hp : Try.prog.stoodInHeld 56 = false := by kernel_rfl
  unfold Txx.eqB Txx.cells
  rw [show (10000 : Nat) = 9999 + 1 from rfl, run_equalIn_agg w 9999 56 _ _ hS hp]
  simp only [Program.fieldsOf, Try.underlying56]
  clear hS hp
  go_simp
  simp only [ite_okS, Bool.and_true]
  rfl
theorem guardeqlTx (x y : Operand) (xs ys : Array Value) (w : World) : (eqGuard .eql 56 x y (.agg xs) (.agg ys)).run Try.prog w = .ok () w := run_eqGuard_agg w _ _ _ _ _ _ (by kernel_rfl)
theorem eqlTx (x y : Txx) (w : World) : (binOp .eql 56 (.agg x.cells.toArray) (.agg y.cells.toArray)).run Try.prog w = .ok (.bool (Txx.eqB x y)) w := by
  rw [run_eql_struct, eqInTx]
  rfl
theorem guardneqTx (x y : Operand) (xs ys : Array Value) (w : World) : (eqGuard .neq 56 x y (.agg xs) (.agg ys)).run Try.prog w = .ok () w := run_eqGuard_agg w _ _ _ _ _ _ (by kernel_rfl)
theorem neqTx (x y : Txx) (w : World) : (binOp .neq 56 (.agg x.cells.toArray) (.agg y.cells.toArray)).run Try.prog w = .ok (.bool (!Txx.eqB x y)) w := by
  rw [run_neq_struct, eqInTx]
  rfl

theorem Ev_execLoad (ρ : Operand → Value) (dst : Option Tmp) (x : Operand) (ty : TypeId) (pos : String) (after : Array Edge) (guard : Option (Nat × Bool)) :
    execOp ρ { dst, op := .load 96 x, type := ty, pos, after, guard } = recLoad 96 (ρ x) := rfl
theorem Ev_execStore (ρ : Operand → Value) (dst : Option Tmp) (x y : Operand) (ty : TypeId) (pos : String) (after : Array Edge) (guard : Option (Nat × Bool)) :
    execOp ρ { dst, op := .store 96 x y, type := ty, pos, after, guard } = recStore 96 (ρ x) (ρ y) := rfl
theorem Ev_load (w : World) (b o : Nat) (h : okL 4 w b o) : (recLoad 96 (.pointer (some ⟨b, o, none⟩))).run Try.prog w = .ok (.value (.agg (loL 4 w b o).toArray)) w := by
  unfold recLoad
  rw [Sem.run_bind, run_load_rec 4 Try.underlying96 rfl (by kernel_rfl) w b o h]
  rfl
theorem Ev_store (w : World) (b o : Nat) (cs : List Value) (ht : w.there b o 4) (hn : cs.length = 4) (h1 : cs.all (·.oneCell') = true) :
    (recStore 96 (.pointer (some ⟨b, o, none⟩)) (.agg cs.toArray)).run Try.prog w = .ok .skip (w.setCells b o cs) := by
  unfold recStore
  rw [Sem.run_bind, run_store_rec 4 (by kernel_rfl) w b o cs ht hn h1]
  rfl

def Evt.eqB (x y : Evt) : Bool := x.dy == y.dy && (x.co == y.co && (x.fr == y.fr && (x.to == y.to)))
theorem Evt.eqB_iff (x y : Evt) : Evt.eqB x y = true ↔ x = y := by
  unfold Evt.eqB
  constructor
  · intro h
    simp only [Bool.and_eq_true, beq_iff_eq] at h
    cases x; cases y; simp_all
  · rintro rfl
    simp
set_option maxRecDepth 10000 in
set_option maxHeartbeats 1000000 in
theorem eqInEv (x y : Evt) (w : World) : (Op.equalIn 10000 96 (.agg x.cells.toArray) (.agg y.cells.toArray)).run Try.prog w = .ok (Evt.eqB x y) w := by
  have hS : Try.prog.underlying 96 = some (.struct (Try.prog.fieldsOf 96)) := by kernel_rfl
  have hp : Try.prog.stoodInHeld 96 = false := by kernel_rfl
  unfold Evt.eqB Evt.cells
  rw [show (10000 : Nat) = 9999 + 1 from rfl, run_equalIn_agg w 9999 96 _ _ hS hp]
  simp only [Program.fieldsOf, Try.underlying96]
  clear hS hp
  go_simp
  simp only [ite_okS, Bool.and_true]
  rfl
theorem guardeqlEv (x y : Operand) (xs ys : Array Value) (w : World) : (eqGuard .eql 96 x y (.agg xs) (.agg ys)).run Try.prog w = .ok () w := run_eqGuard_agg w _ _ _ _ _ _ (by kernel_rfl)
theorem eqlEv (x y : Evt) (w : World) : (binOp .eql 96 (.agg x.cells.toArray) (.agg y.cells.toArray)).run Try.prog w = .ok (.bool (Evt.eqB x y)) w := by
  rw [run_eql_struct, eqInEv]
  rfl
theorem guardneqEv (x y : Operand) (xs ys : Array Value) (w : World) : (eqGuard .neq 96 x y (.agg xs) (.agg ys)).run Try.prog w = .ok () w := run_eqGuard_agg w _ _ _ _ _ _ (by kernel_rfl)
theorem neqEv (x y : Evt) (w : World) : (binOp .neq 96 (.agg x.cells.toArray) (.agg y.cells.toArray)).run Try.prog w = .ok (.bool (!Evt.eqB x y)) w := by
  rw [run_neq_struct, eqInEv]
  rfl
attribute [local go_sem ↓] Cp_execLoad Tx_execLoad Ev_execLoad

attribute [local go_sem] Cp_load Tx_load Ev_load loL_drew okL_drew

def Tk.hdB (a b : Tk) : Bool := (a.num == b.num) && (a.loc.toList == b.loc.toList) && (a.iss == b.iss) && (a.prev == b.prev) && (a.org == b.org) && (a.fst == b.fst) && (a.vou == b.vou) && (a.posts == b.posts)
theorem Tk.same_of {a b : Tk} (h : Tk.hdB a b = true) (h1 : a.cs = b.cs) (h2 : a.ts = b.ts) (h3 : a.hs = b.hs) : a = b := by
  unfold Tk.hdB at h
  simp only [Bool.and_eq_true, beq_iff_eq, ByteArray.toList_eq] at h
  have hl : a.loc = b.loc := ByteArray.ext (Array.toList_inj.1 h.1.1.1.1.1.1.2)
  cases a; cases b
  simp only at *
  obtain ⟨⟨⟨⟨⟨⟨⟨rfl, -⟩, rfl⟩, rfl⟩, rfl⟩, rfl⟩, rfl⟩, rfl⟩ := h
  subst hl
  subst h1; subst h2; subst h3
  rfl
theorem Tk.hdB_refl (a : Tk) : Tk.hdB a a = true := by unfold Tk.hdB; simp

set_option maxRecDepth 4000 in
set_option maxHeartbeats 4000000 in
theorem rsame_any (a b : Tk) (ca xa ha cb xb hb : Sl) (w : World) (ta : TS w a ca xa ha) (tb : TS w b cb xb hb) (bv : Bool) (hbv : bv = true ↔ a = b) : Calls Try.prog 39 #[.agg #[.int .u64 a.num, .string a.loc, .int .i64 a.iss, .slice ca.p ca.n ca.c, .slice xa.p xa.n xa.c, .int .u64 a.prev, .int .u64 a.org, .int .u64 a.fst, .int .i64 a.vou, .int .i64 a.posts, .slice ha.p ha.n ha.c], .agg #[.int .u64 b.num, .string b.loc, .int .i64 b.iss, .slice cb.p cb.n cb.c, .slice xb.p xb.n xb.c, .int .u64 b.prev, .int .u64 b.org, .int .u64 b.fst, .int .i64 b.vou, .int .i64 b.posts, .slice hb.p hb.n hb.c]] w fun e w' => e = .returned (.bool bv) ∧ Below w.heap.size w w' := by
  obtain ⟨p1, n1, z1⟩ := ca; obtain ⟨p2, n2, z2⟩ := xa; obtain ⟨p3, n3, z3⟩ := ha
  obtain ⟨s1, m1, y1⟩ := cb; obtain ⟨s2, m2, y2⟩ := xb; obtain ⟨s3, m3, y3⟩ := hb
  simp only at *
  have HTA := Lib.hid ta; have HTB := Lib.hid tb; have HBV := Lib.hid hbv
  have HNA1 := Lib.hid ta.cs.length.1; have HNB1 := Lib.hid tb.cs.length.1; have hna1 := ta.cs.length.2; have hnb1 := tb.cs.length.2
  have HNA2 := Lib.hid ta.ts.length.1; have HNB2 := Lib.hid tb.ts.length.1; have hna2 := ta.ts.length.2; have hnb2 := tb.ts.length.2
  have HNA3 := Lib.hid ta.hs.length.1; have HNB3 := Lib.hid tb.hs.length.1; have hna3 := ta.hs.length.2; have hnb3 := tb.hs.length.2
  unfold maxLen at hna1 hna2 hna3 hnb1 hnb2 hnb3
  have HB := Lib.hid (((Below.refl w.heap.size w).alloc (Nat.le_refl _) (.cells #[.int .u64 a.num, .string a.loc, .int .i64 a.iss, .slice p1 n1 z1, .slice p2 n2 z2, .int .u64 a.prev, .int .u64 a.org, .int .u64 a.fst, .int .i64 a.vou, .int .i64 a.posts, .slice p3 n3 z3] 45 (0, 0))).alloc (by simp) (.cells #[.int .u64 b.num, .string b.loc, .int .i64 b.iss, .slice s1 m1 y1, .slice s2 m2 y2, .int .u64 b.prev, .int .u64 b.org, .int .u64 b.fst, .int .i64 b.vou, .int .i64 b.posts, .slice s3 m3 y3] 45 (0, 0)))
  have HRA : Hid (((w.alloc (.cells #[.int .u64 a.num, .string a.loc, .int .i64 a.iss, .slice p1 n1 z1, .slice p2 n2 z2, .int .u64 a.prev, .int .u64 a.org, .int .u64 a.fst, .int .i64 a.vou, .int .i64 a.posts, .slice p3 n3 z3] 45 (0, 0))).alloc (.cells #[.int .u64 b.num, .string b.loc, .int .i64 b.iss, .slice s1 m1 y1, .slice s2 m2 y2, .int .u64 b.prev, .int .u64 b.org, .int .u64 b.fst, .int .i64 b.vou, .int .i64 b.posts, .slice s3 m3 y3] 45 (0, 0))).heap[w.heap.size]? = some (.cells #[.int .u64 a.num, .string a.loc, .int .i64 a.iss, .slice p1 n1 z1, .slice p2 n2 z2, .int .u64 a.prev, .int .u64 a.org, .int .u64 a.fst, .int .i64 a.vou, .int .i64 a.posts, .slice p3 n3 z3] 45 (0, 0))) := Lib.hid (row_after (new_rowW _ _ _ rfl))
  have HRB : Hid (((w.alloc (.cells #[.int .u64 a.num, .string a.loc, .int .i64 a.iss, .slice p1 n1 z1, .slice p2 n2 z2, .int .u64 a.prev, .int .u64 a.org, .int .u64 a.fst, .int .i64 a.vou, .int .i64 a.posts, .slice p3 n3 z3] 45 (0, 0))).alloc (.cells #[.int .u64 b.num, .string b.loc, .int .i64 b.iss, .slice s1 m1 y1, .slice s2 m2 y2, .int .u64 b.prev, .int .u64 b.org, .int .u64 b.fst, .int .i64 b.vou, .int .i64 b.posts, .slice s3 m3 y3] 45 (0, 0))).heap[w.heap.size + 1]? = some (.cells #[.int .u64 b.num, .string b.loc, .int .i64 b.iss, .slice s1 m1 y1, .slice s2 m2 y2, .int .u64 b.prev, .int .u64 b.org, .int .u64 b.fst, .int .i64 b.vou, .int .i64 b.posts, .slice s3 m3 y3] 45 (0, 0))) := Lib.hid (new_rowW _ _ _ (by simp))
  obtain ⟨hd, hhd⟩ : ∃ q, Tk.hdB a b = q := ⟨_, rfl⟩
  have HHD := Lib.hid hhd
  clear ta tb hbv hhd
  go_enter Try.func39, Try.ntmps39
  go_upto_region 1 with fail
  generalize hWW : ((w.alloc (.cells #[.int .u64 a.num, .string a.loc, .int .i64 a.iss, .slice p1 n1 z1, .slice p2 n2 z2, .int .u64 a.prev, .int .u64 a.org, .int .u64 a.fst, .int .i64 a.vou, .int .i64 a.posts, .slice p3 n3 z3] 45 (0, 0))).alloc (.cells #[.int .u64 b.num, .string b.loc, .int .i64 b.iss, .slice s1 m1 y1, .slice s2 m2 y2, .int .u64 b.prev, .int .u64 b.org, .int .u64 b.fst, .int .i64 b.vou, .int .i64 b.posts, .slice s3 m3 y3] 45 (0, 0))) = W at *
  clear hWW
  have hca := fun j => cell_of_row W w.heap.size j _ _ _ HRA.out
  have hcb := fun j => cell_of_row W (w.heap.size + 1) j _ _ _ HRB.out
  obtain ⟨b1, e1⟩ : ∃ q, (a.num != b.num) = q := ⟨_, rfl⟩
  obtain ⟨b2, e2⟩ : ∃ q, (a.loc.toList == b.loc.toList) = !q := ⟨!(a.loc.toList == b.loc.toList), by simp⟩
  obtain ⟨b3, e3⟩ : ∃ q, (a.iss != b.iss) = q := ⟨_, rfl⟩
  obtain ⟨b4, e4⟩ : ∃ q, (a.prev != b.prev) = q := ⟨_, rfl⟩
  obtain ⟨b5, e5⟩ : ∃ q, (a.org != b.org) = q := ⟨_, rfl⟩
  obtain ⟨b6, e6⟩ : ∃ q, (a.fst != b.fst) = q := ⟨_, rfl⟩
  obtain ⟨b7, e7⟩ : ∃ q, (a.vou != b.vou) = q := ⟨_, rfl⟩
  obtain ⟨b8, e8⟩ : ∃ q, (a.posts != b.posts) = q := ⟨_, rfl⟩
  have hdq : hd = !(b1 || b2 || b3 || b4 || b5 || b6 || b7 || b8) := by
    rw [← HHD.out, ← e1, ← e3, ← e4, ← e5, ← e6, ← e7, ← e8]
    unfold Tk.hdB
    rw [e2]
    unfold bne
    simp only [Bool.not_or, Bool.not_not]
  have HDQ := Lib.hid hdq
  clear hdq
  cases hd
  · have HF : Hid (bv = false) := Lib.hid (by
      cases hbq : bv
      · rfl
      · have h1 := HBV.out.1 hbq
        have h2 := HHD.out
        rw [h1, Tk.hdB_refl] at h2
        cases h2)
    have hor : b1 = true ∨ (b1 = false ∧ b2 = true) ∨ (b1 = false ∧ b2 = false ∧ b3 = true) ∨ (b1 = false ∧ b2 = false ∧ b3 = false ∧ b4 = true) ∨ (b1 = false ∧ b2 = false ∧ b3 = false ∧ b4 = false ∧ b5 = true) ∨ (b1 = false ∧ b2 = false ∧ b3 = false ∧ b4 = false ∧ b5 = false ∧ b6 = true) ∨ (b1 = false ∧ b2 = false ∧ b3 = false ∧ b4 = false ∧ b5 = false ∧ b6 = false ∧ b7 = true) ∨ (b1 = false ∧ b2 = false ∧ b3 = false ∧ b4 = false ∧ b5 = false ∧ b6 = false ∧ b7 = false ∧ b8 = true) := by
      have h2 := HDQ.out
      revert h2
      cases b1 <;> cases b2 <;> cases b3 <;> cases b4 <;> cases b5 <;> cases b6 <;> cases b7 <;> cases b8 <;> simp
    rcases hor with rfl | ⟨rfl, rfl⟩ | ⟨rfl, rfl, rfl⟩ | ⟨rfl, rfl, rfl, rfl⟩ | ⟨rfl, rfl, rfl, rfl, rfl⟩ | ⟨rfl, rfl, rfl, rfl, rfl, rfl⟩ | ⟨rfl, rfl, rfl, rfl, rfl, rfl, rfl⟩ | ⟨rfl, rfl, rfl, rfl, rfl, rfl, rfl, rfl⟩
    all_goals
      (try simp only [Bool.not_true, Bool.not_false] at e2)
      go_wp2_with fail
      go_ret
      exact ⟨ret_bool HF.out.symm, HB.out⟩
  · have hall : b1 = false ∧ b2 = false ∧ b3 = false ∧ b4 = false ∧ b5 = false ∧ b6 = false ∧ b7 = false ∧ b8 = false := by
      have h2 := HDQ.out
      revert h2
      cases b1 <;> cases b2 <;> cases b3 <;> cases b4 <;> cases b5 <;> cases b6 <;> cases b7 <;> cases b8 <;> simp
    obtain ⟨rfl, rfl, rfl, rfl, rfl, rfl, rfl, rfl⟩ := hall
    clear HDQ
    simp only [Bool.not_false] at e2
    by_cases hln : n1 = m1 ∧ n2 = m2 ∧ n3 = m3
    · obtain ⟨rfl, rfl, rfl⟩ := hln
      have hga := fun j => cell_of_row W w.heap.size j _ _ _ HRA.out
      have hgb := fun j => cell_of_row W (w.heap.size + 1) j _ _ _ HRB.out
      go_wp2_with fail
      clear hga hgb
      go_loopw [5] (fun i wr => ∃ k : Nat, k ≤ n1 ∧ i = .int .i64 k ∧ Below W.heap.size W wr ∧ a.cs.take k = b.cs.take k) (fun i _ => n1 - (intOf i).toNat)
      case atStart => exact ⟨0, Nat.zero_le _, rfl, Below.refl _ _, rfl⟩
      case round =>
        obtain ⟨k, hk, rfl, hbw, heq⟩ := hrel
        have HBW := Lib.hid hbw; have HEQ := Lib.hid heq
        have HRAr := Lib.hid ((hbw.block _ (block_lt HRA.out)).trans HRA.out)
        have HRBr := Lib.hid ((hbw.block _ (block_lt HRB.out)).trans HRB.out)
        have hga := fun j => cell_of_row wr w.heap.size j _ _ _ HRAr.out
        have hgb := fun j => cell_of_row wr (w.heap.size + 1) j _ _ _ HRBr.out
        clear heq hbw
        by_cases hlt : k < n1
        · obtain ⟨x, hx⟩ : ∃ x, a.cs[k]? = some x := ⟨_, List.getElem?_eq_getElem (by have := HNA1.out; omega)⟩
          obtain ⟨y, hy⟩ : ∃ y, b.cs[k]? = some y := ⟨_, List.getElem?_eq_getElem (by have := HNB1.out; omega)⟩
          have HX := Lib.hid hx; have HY := Lib.hid hy
          obtain ⟨bb, o, hp, hb1, hr⟩ := (HTA.out.cs.below (HB.out.trans (HBW.out.mono HB.out.size))).at hx
          obtain ⟨bb2, o2, hp2, hb2, hr2⟩ := (HTB.out.cs.below (HB.out.trans (HBW.out.mono HB.out.size))).at hy
          subst hp; subst hp2
          obtain ⟨f1, f2⟩ := loL_of hr (Cpn.cells_length x)
          obtain ⟨f3, f4⟩ := loL_of hr2 (Cpn.cells_length y)
          obtain ⟨q, hq⟩ : ∃ q, Cpn.eqB x y = q := ⟨_, rfl⟩
          have hE : ∀ W, (Op.equalIn 10000 37 (.agg x.cells.toArray) (.agg y.cells.toArray)).run Try.prog W = .ok q W := fun W => by rw [← hq]; exact eqInCp x y W
          have HQ := Lib.hid (hq ▸ Cpn.eqB_iff x y : (q = true ↔ x = y))
          have hG := guardneqCp
          have hG2 := guardeqlCp
          generalize x.cells = cx at *
          generalize y.cells = cy at *
          clear hx hy hr hr2 hq
          cases q
          · have HF : Hid (bv = false) := Lib.hid (by
              cases hbq : bv
              · rfl
              · have h1 := HBV.out.1 hbq
                have h2 := HX.out
                rw [h1, HY.out] at h2
                injection h2 with h2
                exact absurd (HQ.out.2 h2.symm) (by simp))
            go_wp2_with fail
            go_region
            go_wp2
            go_ret
            exact ⟨ret_bool HF.out.symm, (HB.out.trans (HBW.out.mono HB.out.size)).drew⟩
          · go_wp2_with fail
            go_region
            go_wp2
            go_roundw
            case rel => exact ⟨k + 1, by omega, by go_num, HBW.out.drew, by rw [List.take_add_one, List.take_add_one, HX.out, HY.out, HEQ.out, HQ.out.1 (by trivial)]⟩
            case measure => simp [intOf]; omega
        · have hk2 : k = n1 := by omega
          clear hlt
          subst hk2
          have HE1 : Hid (a.cs = b.cs) := Lib.hid (by have := HEQ.out; rwa [List.take_of_length_le (by have := HNA1.out; omega), List.take_of_length_le (by have := HNB1.out; omega)] at this)
          have HB := Lib.hid (HB.out.trans (HBW.out.mono HB.out.size)); have HRA := HRAr; have HRB := HRBr
          clear hga hgb HBW HRAr HRBr HEQ
          generalize hWW : wr = W at *
          clear hWW
          have hga := fun j => cell_of_row W w.heap.size j _ _ _ HRA.out
          have hgb := fun j => cell_of_row W (w.heap.size + 1) j _ _ _ HRB.out
          go_wp2_with fail
          clear hga hgb
          go_loopw [6] (fun i wr => ∃ k : Nat, k ≤ n2 ∧ i = .int .i64 k ∧ Below W.heap.size W wr ∧ a.ts.take k = b.ts.take k) (fun i _ => n2 - (intOf i).toNat)
          case atStart => exact ⟨0, Nat.zero_le _, rfl, Below.refl _ _, rfl⟩
          case round =>
            obtain ⟨k, hk, rfl, hbw, heq⟩ := hrel
            have HBW := Lib.hid hbw; have HEQ := Lib.hid heq
            have HRAr := Lib.hid ((hbw.block _ (block_lt HRA.out)).trans HRA.out)
            have HRBr := Lib.hid ((hbw.block _ (block_lt HRB.out)).trans HRB.out)
            have hga := fun j => cell_of_row wr w.heap.size j _ _ _ HRAr.out
            have hgb := fun j => cell_of_row wr (w.heap.size + 1) j _ _ _ HRBr.out
            clear heq hbw
            by_cases hlt : k < n2
            · obtain ⟨x, hx⟩ : ∃ x, a.ts[k]? = some x := ⟨_, List.getElem?_eq_getElem (by have := HNA2.out; omega)⟩
              obtain ⟨y, hy⟩ : ∃ y, b.ts[k]? = some y := ⟨_, List.getElem?_eq_getElem (by have := HNB2.out; omega)⟩
              have HX := Lib.hid hx; have HY := Lib.hid hy
              obtain ⟨bb, o, hp, hb1, hr⟩ := (HTA.out.ts.below (HB.out.trans (HBW.out.mono HB.out.size))).at hx
              obtain ⟨bb2, o2, hp2, hb2, hr2⟩ := (HTB.out.ts.below (HB.out.trans (HBW.out.mono HB.out.size))).at hy
              subst hp; subst hp2
              obtain ⟨f1, f2⟩ := loL_of hr (Txx.cells_length x)
              obtain ⟨f3, f4⟩ := loL_of hr2 (Txx.cells_length y)
              obtain ⟨q, hq⟩ : ∃ q, Txx.eqB x y = q := ⟨_, rfl⟩
              have hE : ∀ W, (Op.equalIn 10000 56 (.agg x.cells.toArray) (.agg y.cells.toArray)).run Try.prog W = .ok q W := fun W => by rw [← hq]; exact eqInTx x y W
              have HQ := Lib.hid (hq ▸ Txx.eqB_iff x y : (q = true ↔ x = y))
              have hG := guardneqTx
              have hG2 := guardeqlTx
              generalize x.cells = cx at *
              generalize y.cells = cy at *
              clear hx hy hr hr2 hq
              cases q
              · have HF : Hid (bv = false) := Lib.hid (by
                  cases hbq : bv
                  · rfl
                  · have h1 := HBV.out.1 hbq
                    have h2 := HX.out
                    rw [h1, HY.out] at h2
                    injection h2 with h2
                    exact absurd (HQ.out.2 h2.symm) (by simp))
                go_wp2_with fail
                go_region
                go_wp2
                go_ret
                exact ⟨ret_bool HF.out.symm, (HB.out.trans (HBW.out.mono HB.out.size)).drew⟩
              · go_wp2_with fail
                go_region
                go_wp2
                go_roundw
                case rel => exact ⟨k + 1, by omega, by go_num, HBW.out.drew, by rw [List.take_add_one, List.take_add_one, HX.out, HY.out, HEQ.out, HQ.out.1 (by trivial)]⟩
                case measure => simp [intOf]; omega
            · have hk2 : k = n2 := by omega
              clear hlt
              subst hk2
              have HE2 : Hid (a.ts = b.ts) := Lib.hid (by have := HEQ.out; rwa [List.take_of_length_le (by have := HNA2.out; omega), List.take_of_length_le (by have := HNB2.out; omega)] at this)
              have HB := Lib.hid (HB.out.trans (HBW.out.mono HB.out.size)); have HRA := HRAr; have HRB := HRBr
              clear hga hgb HBW HRAr HRBr HEQ
              generalize hWW : wr = W at *
              clear hWW
              have hga := fun j => cell_of_row W w.heap.size j _ _ _ HRA.out
              have hgb := fun j => cell_of_row W (w.heap.size + 1) j _ _ _ HRB.out
              go_wp2_with fail
              clear hga hgb
              go_loopw [7] (fun i wr => ∃ k : Nat, k ≤ n3 ∧ i = .int .i64 k ∧ Below W.heap.size W wr ∧ a.hs.take k = b.hs.take k) (fun i _ => n3 - (intOf i).toNat)
              case atStart => exact ⟨0, Nat.zero_le _, rfl, Below.refl _ _, rfl⟩
              case round =>
                obtain ⟨k, hk, rfl, hbw, heq⟩ := hrel
                have HBW := Lib.hid hbw; have HEQ := Lib.hid heq
                have HRAr := Lib.hid ((hbw.block _ (block_lt HRA.out)).trans HRA.out)
                have HRBr := Lib.hid ((hbw.block _ (block_lt HRB.out)).trans HRB.out)
                have hga := fun j => cell_of_row wr w.heap.size j _ _ _ HRAr.out
                have hgb := fun j => cell_of_row wr (w.heap.size + 1) j _ _ _ HRBr.out
                clear heq hbw
                by_cases hlt : k < n3
                · obtain ⟨x, hx⟩ : ∃ x, a.hs[k]? = some x := ⟨_, List.getElem?_eq_getElem (by have := HNA3.out; omega)⟩
                  obtain ⟨y, hy⟩ : ∃ y, b.hs[k]? = some y := ⟨_, List.getElem?_eq_getElem (by have := HNB3.out; omega)⟩
                  have HX := Lib.hid hx; have HY := Lib.hid hy
                  obtain ⟨bb, o, hp, hb1, hr⟩ := (HTA.out.hs.below (HB.out.trans (HBW.out.mono HB.out.size))).at hx
                  obtain ⟨bb2, o2, hp2, hb2, hr2⟩ := (HTB.out.hs.below (HB.out.trans (HBW.out.mono HB.out.size))).at hy
                  subst hp; subst hp2
                  obtain ⟨f1, f2⟩ := loL_of hr (Evt.cells_length x)
                  obtain ⟨f3, f4⟩ := loL_of hr2 (Evt.cells_length y)
                  obtain ⟨q, hq⟩ : ∃ q, Evt.eqB x y = q := ⟨_, rfl⟩
                  have hE : ∀ W, (Op.equalIn 10000 96 (.agg x.cells.toArray) (.agg y.cells.toArray)).run Try.prog W = .ok q W := fun W => by rw [← hq]; exact eqInEv x y W
                  have HQ := Lib.hid (hq ▸ Evt.eqB_iff x y : (q = true ↔ x = y))
                  have hG := guardneqEv
                  have hG2 := guardeqlEv
                  generalize x.cells = cx at *
                  generalize y.cells = cy at *
                  clear hx hy hr hr2 hq
                  cases q
                  · have HF : Hid (bv = false) := Lib.hid (by
                      cases hbq : bv
                      · rfl
                      · have h1 := HBV.out.1 hbq
                        have h2 := HX.out
                        rw [h1, HY.out] at h2
                        injection h2 with h2
                        exact absurd (HQ.out.2 h2.symm) (by simp))
                    go_wp2_with fail
                    go_region
                    go_wp2
                    go_ret
                    exact ⟨ret_bool HF.out.symm, (HB.out.trans (HBW.out.mono HB.out.size)).drew⟩
                  · go_wp2_with fail
                    go_region
                    go_wp2
                    go_roundw
                    case rel => exact ⟨k + 1, by omega, by go_num, HBW.out.drew, by rw [List.take_add_one, List.take_add_one, HX.out, HY.out, HEQ.out, HQ.out.1 (by trivial)]⟩
                    case measure => simp [intOf]; omega
                · have hk2 : k = n3 := by omega
                  clear hlt
                  subst hk2
                  have HE3 : Hid (a.hs = b.hs) := Lib.hid (by have := HEQ.out; rwa [List.take_of_length_le (by have := HNA3.out; omega), List.take_of_length_le (by have := HNB3.out; omega)] at this)
                  have HF : Hid (bv = true) := Lib.hid (HBV.out.2 (Tk.same_of HHD.out HE1.out HE2.out HE3.out))
                  go_wp2
                  go_ret
                  exact ⟨ret_bool HF.out.symm, HB.out.trans (HBW.out.mono HB.out.size)⟩
    · have HF : Hid (bv = false) := Lib.hid (by
        cases hbq : bv
        · rfl
        · have h1 := HBV.out.1 hbq
          refine absurd ?_ hln
          have e1 : n1 = a.cs.length := HNA1.out; have e2 : n2 = a.ts.length := HNA2.out; have e3 : n3 = a.hs.length := HNA3.out; have e4 : m1 = b.cs.length := HNB1.out; have e5 : m2 = b.ts.length := HNB2.out; have e6 : m3 = b.hs.length := HNB3.out
          rw [h1] at e1 e2 e3
          omega)
      have hl2 : ¬ (n1 : Int) = (m1 : Int) ∨ ((n1 : Int) = m1 ∧ ¬ (n2 : Int) = (m2 : Int)) ∨ ((n1 : Int) = m1 ∧ (n2 : Int) = m2 ∧ ¬ (n3 : Int) = (m3 : Int)) := by omega
      clear hln
      rcases hl2 with h1 | ⟨h1, h2⟩ | ⟨h1, h2, h3⟩
      all_goals
        go_wp2
        go_ret
        exact ⟨ret_bool HF.out.symm, HB.out⟩
end Go.Proofs.Ytadabjkhiaidcaa
