/- Plain words: the mail of bytes. Contracts: which letters may be (letter.May). -/
import Derived.Test.YtellhmbebimenaaDoorLr16
import Derived.Test.YtellhmbebimenaaDoorLr10
import Derived.Test.YtellhmbebimenaaDoorLr21

section
set_option linter.unusedVariables false
namespace Go.Proofs.YtellhmbebimenaaDoor
open Go.RowKit

/-- a mail -/
structure Ml where
  k : Int
  tk : Int
  c : Int
  d : Int
  co : Int
  fl : Int
  dy : Int
  va : Int
  st : Int
  ho : Int
  nx : Int
/-- which mails may be -/
def Ml.may (m : Ml) : Bool := Ltr.mailB m.k m.tk m.c m.d m.co m.fl m.dy m.va m.st m.ho m.nx
def Ml.arr (m : Ml) : Array Value := #[.int .i64 m.k, .int .u64 m.tk, .int .i64 m.c, .int .i64 m.d, .int .i64 m.co, .int .i64 m.fl, .int .i64 m.dy, .int .i64 m.va, .int .i64 m.st, .int .i64 m.ho, .int .u64 m.nx]
def zMl : Ml := ⟨0, 0, 0, 0, 0, 0, 0, 0, 0, 0, 0⟩
/-- what lies in bytes, read as a mail -/
def mGet (b : List UInt8) : Ml :=
  if rNumV (some b) 1 = 3 then ⟨3, (rNumV (rNumS (some b) 1) 8 : Int), (rNumV (rNumS (rNumS (some b) 1) 8) 1 : Int), 0, (rNumV (rNumS (rNumS (rNumS (some b) 1) 8) 1) 1 : Int), 0, 0, 0, 0, 0, 0⟩
  else if rNumV (some b) 1 = 2 then ⟨2, (rNumV (rNumS (some b) 1) 8 : Int), (rNumV (rNumS (rNumS (some b) 1) 8) 1 : Int), (rNumV (rNumS (rNumS (rNumS (some b) 1) 8) 1) 4 : Int), 0, (rNumV (rNumS (rNumS (rNumS (rNumS (some b) 1) 8) 1) 4) 2 : Int), (rNumV (rNumS (rNumS (rNumS (rNumS (rNumS (some b) 1) 8) 1) 4) 2) 4 : Int), wrap64 (rNumV (rNumS (rNumS (rNumS (rNumS (rNumS (rNumS (some b) 1) 8) 1) 4) 2) 4) 8 : Int), 1, 0, 0⟩
  else ⟨rNumV (some b) 1, (rNumV (rNumS (some b) 1) 8 : Int), (rNumV (rNumS (rNumS (some b) 1) 8) 1 : Int), (rNumV (rNumS (rNumS (rNumS (some b) 1) 8) 1) 4 : Int), 0, 0, 0, 0, 0, 0, 0⟩
def mEnd (b : List UInt8) : Option (List UInt8) :=
  if rNumV (some b) 1 = 3 then rNumS (rNumS (rNumS (rNumS (some b) 1) 8) 1) 1 else if rNumV (some b) 1 = 2 then (rNumS (rNumS (rNumS (rNumS (rNumS (rNumS (rNumS (some b) 1) 8) 1) 4) 2) 4) 8) else (rNumS (rNumS (rNumS (rNumS (some b) 1) 8) 1) 4)
def okM (b : List UInt8) : Bool := decide (mEnd b = some []) && (mGet b).may
/-- the mail of bytes -/
def mOf (b : List UInt8) : Ml := if okM b = true then mGet b else zMl
end Go.Proofs.YtellhmbebimenaaDoor
end

section
set_option linter.unusedVariables false
set_option linter.unusedSimpArgs false
namespace Go.Proofs.YtellhmbebimenaaDoor
open Go.RowKit

theorem neqM (k tk c d co fl dy va st ho nx k' tk' c' d' co' fl' dy' va' st' ho' nx' : Int) (w : World) : (binOp .neq 29 (.agg #[.int .i64 k, .int .u64 tk, .int .i64 c, .int .i64 d, .int .i64 co, .int .i64 fl, .int .i64 dy, .int .i64 va, .int .i64 st, .int .i64 ho, .int .u64 nx]) (.agg #[.int .i64 k', .int .u64 tk', .int .i64 c', .int .i64 d', .int .i64 co', .int .i64 fl', .int .i64 dy', .int .i64 va', .int .i64 st', .int .i64 ho', .int .u64 nx'])).run Tryd.prog w = .ok (.bool (!Ltr.eqM k tk c d co fl dy va st ho nx k' tk' c' d' co' fl' dy' va' st' ho' nx')) w := by
  rw [run_neq_struct, eqInM]
  rfl
theorem guardNM (x y : Operand) (xs ys : Array Value) (w : World) : (eqGuard .neq 29 x y (.agg xs) (.agg ys)).run Tryd.prog w = .ok () w := run_eqGuard_agg w _ _ _ _ _ _ (by kernel_rfl)
theorem carrier20_any (c : Int) (w : World) :
    Calls Tryd.prog 103 #[.int .i64 c] w fun e w' => e = .returned (.bool (Num.mayC c)) ∧ w = w' := by
  go_enter Tryd.func103, Tryd.ntmps103
  go_wp2
  all_goals
    go_ret
    refine ⟨ret_bool ?_, rfl⟩
    unfold Num.mayC
    simp; omega

set_option maxHeartbeats 1000000 in
theorem wrong1_any (f t n a k tk c d co fl dy va st ho nx : Int) (g : Nat) (ht : U64 tk) (hva : I64 va) (hn : U64 n) (ha : U64 a) (w : World) (hr : w.heap[g]? = some (.cells #[.int .i64 f, .int .i64 t, .int .u64 n, .int .u64 a, .int .i64 k, .int .u64 tk, .int .i64 c, .int .i64 d, .int .i64 co, .int .i64 fl, .int .i64 dy, .int .i64 va, .int .i64 st, .int .i64 ho, .int .u64 nx] 31 (0, 0))) :
    Calls Tryd.prog 102 #[.pointer (some ⟨g, 0, none⟩)] w fun e w' => e = .returned (.bool (!(Num.mayC f && Num.mayC t))) ∧ Below w.heap.size w w' := by
  have hc := fun j => cell_of_row w g j _ _ _ hr
  have HB := Lib.hid (Below.refl w.heap.size w)
  obtain ⟨hn0, hn1⟩ := hn
  obtain ⟨ha0, ha1⟩ := ha
  have HC := Lib.hid carrier20_any
  generalize Num.mayC = mayC at *
  clear hr
  go_enter Tryd.func102, Tryd.ntmps102
  go_wp2_with (first | (go_at_call 103; refine (HC.out _ _).mono ?_; rintro e w' ⟨rfl, rfl⟩))
  all_goals
    go_ret
    refine ⟨ret_bool ?_, by first | exact HB.out | exact Below.refl _ _⟩
    rw [Bool.eq_iff_iff]
    try clear HB hc
    simp_all
    try omega

set_option maxHeartbeats 1000000 in
theorem wrong2_any (f t n a k tk c d co fl dy va st ho nx : Int) (g : Nat) (ht : U64 tk) (hva : I64 va) (hn : U64 n) (ha : U64 a) (w : World) (hr : w.heap[g]? = some (.cells #[.int .i64 f, .int .i64 t, .int .u64 n, .int .u64 a, .int .i64 k, .int .u64 tk, .int .i64 c, .int .i64 d, .int .i64 co, .int .i64 fl, .int .i64 dy, .int .i64 va, .int .i64 st, .int .i64 ho, .int .u64 nx] 31 (0, 0))) :
    Calls Tryd.prog 104 #[.pointer (some ⟨g, 0, none⟩)] w fun e w' => e = .returned (.bool (decide (f = t))) ∧ Below w.heap.size w w' := by
  have hc := fun j => cell_of_row w g j _ _ _ hr
  have HB := Lib.hid (Below.refl w.heap.size w)
  obtain ⟨hn0, hn1⟩ := hn
  obtain ⟨ha0, ha1⟩ := ha
  
  clear hr
  go_enter Tryd.func104, Tryd.ntmps104
  go_wp2
  all_goals
    go_ret
    refine ⟨ret_bool ?_, by first | exact HB.out | exact Below.refl _ _⟩
    rw [Bool.eq_iff_iff]
    try clear HB hc
    simp_all
    try omega

set_option maxHeartbeats 1000000 in
theorem wrong3_any (f t n a k tk c d co fl dy va st ho nx : Int) (g : Nat) (ht : U64 tk) (hva : I64 va) (hn : U64 n) (ha : U64 a) (w : World) (hr : w.heap[g]? = some (.cells #[.int .i64 f, .int .i64 t, .int .u64 n, .int .u64 a, .int .i64 k, .int .u64 tk, .int .i64 c, .int .i64 d, .int .i64 co, .int .i64 fl, .int .i64 dy, .int .i64 va, .int .i64 st, .int .i64 ho, .int .u64 nx] 31 (0, 0))) :
    Calls Tryd.prog 105 #[.pointer (some ⟨g, 0, none⟩)] w fun e w' => e = .returned (.bool (!(decide (n ≤ 4611686018427387904) && decide (a ≤ 4611686018427387904)))) ∧ Below w.heap.size w w' := by
  have hc := fun j => cell_of_row w g j _ _ _ hr
  have HB := Lib.hid (Below.refl w.heap.size w)
  obtain ⟨hn0, hn1⟩ := hn
  obtain ⟨ha0, ha1⟩ := ha
  
  clear hr
  go_enter Tryd.func105, Tryd.ntmps105
  go_wp2
  all_goals
    go_ret
    refine ⟨ret_bool ?_, by first | exact HB.out | exact Below.refl _ _⟩
    rw [Bool.eq_iff_iff]
    try clear HB hc
    simp_all
    try omega

set_option maxHeartbeats 1000000 in
theorem wrong4_any (f t n a k tk c d co fl dy va st ho nx : Int) (g : Nat) (ht : U64 tk) (hva : I64 va) (hn : U64 n) (ha : U64 a) (w : World) (hr : w.heap[g]? = some (.cells #[.int .i64 f, .int .i64 t, .int .u64 n, .int .u64 a, .int .i64 k, .int .u64 tk, .int .i64 c, .int .i64 d, .int .i64 co, .int .i64 fl, .int .i64 dy, .int .i64 va, .int .i64 st, .int .i64 ho, .int .u64 nx] 31 (0, 0))) :
    Calls Tryd.prog 106 #[.pointer (some ⟨g, 0, none⟩)] w fun e w' => e = .returned (.bool ((decide (n = 0) && !Ltr.eqM k tk c d co fl dy va st ho nx 0 0 0 0 0 0 0 0 0 0 0))) ∧ Below w.heap.size w w' := by
  have hc := fun j => cell_of_row w g j _ _ _ hr
  have HB := Lib.hid (Below.refl w.heap.size w)
  obtain ⟨hn0, hn1⟩ := hn
  obtain ⟨ha0, ha1⟩ := ha
  have hE := fun W => neqM k tk c d co fl dy va st ho nx 0 0 0 0 0 0 0 0 0 0 0 W
  have hG := guardNM
  generalize Ltr.eqM k tk c d co fl dy va st ho nx 0 0 0 0 0 0 0 0 0 0 0 = E at *
  clear hr
  go_enter Tryd.func106, Tryd.ntmps106
  go_wp2
  all_goals
    go_ret
    refine ⟨ret_bool ?_, by first | exact HB.out | exact Below.refl _ _⟩
    rw [Bool.eq_iff_iff]
    try clear HB hc
    simp_all
    try omega

set_option maxHeartbeats 1000000 in
theorem wrong5_any (f t n a k tk c d co fl dy va st ho nx : Int) (g : Nat) (ht : U64 tk) (hva : I64 va) (hn : U64 n) (ha : U64 a) (w : World) (hr : w.heap[g]? = some (.cells #[.int .i64 f, .int .i64 t, .int .u64 n, .int .u64 a, .int .i64 k, .int .u64 tk, .int .i64 c, .int .i64 d, .int .i64 co, .int .i64 fl, .int .i64 dy, .int .i64 va, .int .i64 st, .int .i64 ho, .int .u64 nx] 31 (0, 0))) :
    Calls Tryd.prog 107 #[.pointer (some ⟨g, 0, none⟩)] w fun e w' => e = .returned (.bool ((!decide (n = 0) && !Ltr.mailB k tk c d co fl dy va st ho nx))) ∧ Below w.heap.size w w' := by
  have hc := fun j => cell_of_row w g j _ _ _ hr
  have HB := Lib.hid (Below.refl w.heap.size w)
  obtain ⟨hn0, hn1⟩ := hn
  obtain ⟨ha0, ha1⟩ := ha
  have HM := Lib.hid (fun W => mayMail_any k tk c d co fl dy va st ho nx ht hva W)
  generalize Ltr.mailB k tk c d co fl dy va st ho nx = E at *
  clear hr
  go_enter Tryd.func107, Tryd.ntmps107
  go_wp2_with (first | (go_at_call 96; refine (HM.out _).mono ?_; rintro e wn ⟨rfl, hbn⟩; have HB := Lib.hid hbn; clear hbn))
  all_goals
    go_ret
    refine ⟨ret_bool ?_, by first | exact HB.out | exact Below.refl _ _⟩
    rw [Bool.eq_iff_iff]
    try clear HB hc
    simp_all
    try omega

theorem wrongs_any (f t n a k tk c d co fl dy va st ho nx : Int) (w : World) : Calls Tryd.prog 52 #[.agg #[.int .i64 f, .int .i64 t, .int .u64 n, .int .u64 a, .int .i64 k, .int .u64 tk, .int .i64 c, .int .i64 d, .int .i64 co, .int .i64 fl, .int .i64 dy, .int .i64 va, .int .i64 st, .int .i64 ho, .int .u64 nx]] w fun e w' => e = .returned (.slice (some ⟨w.heap.size + 1, 0, none⟩) 5 5) ∧ w'.heap[w.heap.size]? = some (.cells #[.int .i64 f, .int .i64 t, .int .u64 n, .int .u64 a, .int .i64 k, .int .u64 tk, .int .i64 c, .int .i64 d, .int .i64 co, .int .i64 fl, .int .i64 dy, .int .i64 va, .int .i64 st, .int .i64 ho, .int .u64 nx] 31 (0, 0)) ∧
    w'.heap[w.heap.size + 1]? = some (.cells #[.func (.func 102) #[] #[.pointer (some ⟨w.heap.size, 0, none⟩)], .func (.func 104) #[] #[.pointer (some ⟨w.heap.size, 0, none⟩)], .func (.func 105) #[] #[.pointer (some ⟨w.heap.size, 0, none⟩)], .func (.func 106) #[] #[.pointer (some ⟨w.heap.size, 0, none⟩)], .func (.func 107) #[] #[.pointer (some ⟨w.heap.size, 0, none⟩)]] 37 (0, 0)) ∧ Below w.heap.size w w' := by
  go_enter Tryd.func52, Tryd.ntmps52
  go_wp2
  go_ret
  exact ⟨rfl, row_allocS (new_rowW w _ _ rfl) _, new_rowW _ _ _ (by simp), ((Below.refl _ _).alloc (Nat.le_refl _) _).alloc (by simp) _⟩
end Go.Proofs.YtellhmbebimenaaDoor
end
