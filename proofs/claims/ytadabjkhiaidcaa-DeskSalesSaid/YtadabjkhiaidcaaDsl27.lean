/- Desk: plain words of what is sold, and contracts of package desk's small functions. Contracts of package wire's Reader: Read, well, Left, Fail, Bytes, End. -/
import Derived.Test.YtadabjkhiaidcaaDsl26
import Derived.Test.YtadabjkhiaidcaaDsl3
import Derived.Test.YtadabjkhiaidcaaDsl8
import Derived.Deep.RegionHeld3

section
set_option linter.unusedVariables false
set_option linter.unusedSimpArgs false
namespace Go.Proofs.Ytadabjkhiaidcaa
open Go.ChangeShapes Go.WideShapes Go.ChangeAt Go.RowKit Go.Deep

namespace Dk
/-- may a flight be sold? -/
def soldB (y : Cpn) : Bool := (decide (y.st = 0) && decide (y.ho = 0) && decide (y.nx = 0)) && decide (1 ≤ y.fl) && decide (y.fl ≤ 9999) && Tkt.dayB y.dy && Tkt.someB y.va
/-- the coupon of a flight that is sold -/
def soldC (y : Cpn) : Cpn := ⟨y.fl, y.dy, y.va, 1, 0, 0⟩
/-- may flights be sold, at most so many? -/
def rowB (l : List Cpn) (most : Int) : Bool := l.all soldB && (decide (1 ≤ (l.length : Int)) && decide ((l.length : Int) ≤ most))
/-- do flights go on, from a day on? -/
def goesB : List Cpn → Int → Bool
  | [], _ => true
  | y :: r, d => decide (d ≤ y.dy) && goesB r y.dy
/-- may taxes be? (behind a code) -/
def taxB (last : Int) : List Txx → Bool
  | [] => true
  | y :: r => (decide (last < y.cd) && decide (y.cd ≤ 99) && Tkt.someB y.am) && taxB y.cd r
def taxedB (l : List Txx) : Bool := taxB 0 l && decide ((l.length : Int) ≤ 4)
/-- how many tickets so many flights need -/
def need (n : Int) : Int := if 1 ≤ n ∧ n ≤ 12 then (n + 3) / 4 else 0
end Dk

theorem eqSold (fl dy va st ho nx : Int) (w : World) : (binOp .eql 37 (.agg #[.int .i64 fl, .int .i64 dy, .int .i64 va, .int .i64 st, .int .i64 ho, .int .u64 nx]) (.agg #[.int .i64 fl, .int .i64 dy, .int .i64 va, .int .i64 0, .int .i64 0, .int .u64 0])).run Try.prog w = .ok (.bool (decide (st = 0) && decide (ho = 0) && decide (nx = 0))) w := by
  have hS : Try.prog.underlying 37 = some (.struct (Try.prog.fieldsOf 37)) := by kernel_rfl
  have hp : Try.prog.stoodInHeld 37 = false := by kernel_rfl
  rw [run_eql_struct, show (10000 : Nat) = 9999 + 1 from rfl, run_equalIn_agg w 9999 37 _ _ hS hp]
  simp only [Program.fieldsOf, Try.underlying37]
  by_cases h1 : st = 0 <;> by_cases h2 : ho = 0 <;> by_cases h3 : nx = 0 <;> (go_simp; try simp_all)

theorem guardSold (x y : Operand) (xs ys : Array Value) (w : World) : (eqGuard .eql 37 x y (.agg xs) (.agg ys)).run Try.prog w = .ok () w := run_eqGuard_agg w _ _ _ _ _ _ (by kernel_rfl)

theorem loadCp {w : World} {g : Nat} {cs : Array Value} {e : TypeId} (h : w.heap[g]? = some (.cells cs e (0, 0))) (hs : cs.size = 6) : (loadVar 37 ⟨g, 0, none⟩).run Try.prog w = .ok (.agg cs) w := by
  refine run_loadVar_row w g e 37 cs (0, 0) _ h Try.underlying37 rfl ?_
  rw [hs]; kernel_rfl

attribute [local go_sem ↓] Cp_execLoad Cp_execStore

attribute [local go_sem] Cp_load Cp_store loL_drew okL_drew there_sc World.there_drew

set_option maxRecDepth 4000 in
set_option maxHeartbeats 4000000 in
theorem dwithin_any (n : Int) (w : World) : Calls Try.prog 25 #[.int .i64 n] w fun e w' => e = .returned (.bool (Tkt.dayB n)) ∧ w = w' := by
  go_enter Try.func25, Try.ntmps25
  go_wp2
  all_goals
    go_ret
    refine ⟨ret_bool ?_, rfl⟩
    unfold Tkt.dayB
    simp; omega


set_option maxRecDepth 4000 in
set_option maxHeartbeats 4000000 in
theorem damount_any (n : Int) (w : World) : Calls Try.prog 51 #[.int .i64 n] w fun e w' => e = .returned (.bool (Tkt.someB n)) ∧ w = w' := by
  have HF := Lib.hid (fareMay_any n w)
  go_enter Try.func51, Try.ntmps51
  go_wp2_with (first | (go_at_call 78; refine HF.out.mono ?_; rintro e w' ⟨rfl, rfl⟩))
  all_goals
    go_ret
    refine ⟨ret_bool ?_, rfl⟩
    unfold Tkt.someB
    first | rw [← hq1] | skip
    rw [Bool.eq_iff_iff]
    simp
    try omega

set_option maxRecDepth 4000 in
set_option maxHeartbeats 4000000 in
theorem dsold_any (y : Cpn) (w : World) : Calls Try.prog 62 #[.agg #[.int .i64 y.fl, .int .i64 y.dy, .int .i64 y.va, .int .i64 y.st, .int .i64 y.ho, .int .u64 y.nx]] w fun e w' => e = .returned (.tuple #[.agg #[.int .i64 y.fl, .int .i64 y.dy, .int .i64 y.va, .int .i64 1, .int .i64 0, .int .u64 0], .bool (Dk.soldB y)]) ∧ Below w.heap.size w w' := by
  have HWI := Lib.hid (fun W => dwithin_any y.dy W)
  have HAM := Lib.hid (fun W => damount_any y.va W)
  have hE := eqSold
  have hG := guardSold
  obtain ⟨q1, hq1⟩ : ∃ q, (decide (y.st = 0) && decide (y.ho = 0) && decide (y.nx = 0)) = q := ⟨_, rfl⟩
  obtain ⟨q2, hq2⟩ : ∃ q, Tkt.dayB y.dy = q := ⟨_, rfl⟩
  obtain ⟨q3, hq3⟩ : ∃ q, Tkt.someB y.va = q := ⟨_, rfl⟩
  have hey := hE y.fl y.dy y.va y.st y.ho y.nx
  rw [hq1] at hey
  rw [hq2] at HWI
  rw [hq3] at HAM
  clear hE
  obtain ⟨R, hR⟩ : ∃ R, Dk.soldB y = R := ⟨_, rfl⟩
  rw [hR]
  have HRV : Hid (R = (q1 && decide (1 ≤ y.fl) && decide (y.fl ≤ 9999) && q2 && q3)) := Lib.hid (by rw [← hR, ← hq1, ← hq2, ← hq3]; rfl)
  clear hR hq1 hq2 hq3
  have hb1 := (Below.refl w.heap.size w).alloc (Nat.le_refl _) (.cells #[.int .i64 y.fl, .int .i64 y.dy, .int .i64 y.va, .int .i64 y.st, .int .i64 y.ho, .int .u64 y.nx] 37 (0, 0))
  have hb2 := hb1.alloc (by simp) (.cells #[.int .i64 0, .int .i64 0, .int .i64 0, .int .i64 0, .int .i64 0, .int .u64 0] 37 (0, 0))
  have HR0 : Hid (((w.alloc (.cells #[.int .i64 y.fl, .int .i64 y.dy, .int .i64 y.va, .int .i64 y.st, .int .i64 y.ho, .int .u64 y.nx] 37 (0, 0))).alloc (.cells #[.int .i64 0, .int .i64 0, .int .i64 0, .int .i64 0, .int .i64 0, .int .u64 0] 37 (0, 0))).heap[w.heap.size]? = some (.cells #[.int .i64 y.fl, .int .i64 y.dy, .int .i64 y.va, .int .i64 y.st, .int .i64 y.ho, .int .u64 y.nx] 37 (0, 0))) := Lib.hid (row_after (new_rowW _ _ _ rfl))
  have HR1 : Hid (((w.alloc (.cells #[.int .i64 y.fl, .int .i64 y.dy, .int .i64 y.va, .int .i64 y.st, .int .i64 y.ho, .int .u64 y.nx] 37 (0, 0))).alloc (.cells #[.int .i64 0, .int .i64 0, .int .i64 0, .int .i64 0, .int .i64 0, .int .u64 0] 37 (0, 0))).heap[w.heap.size + 1]? = some (.cells #[.int .i64 0, .int .i64 0, .int .i64 0, .int .i64 0, .int .i64 0, .int .u64 0] 37 (0, 0))) := Lib.hid (new_rowW _ _ _ (by simp))
  have HB := Lib.hid hb2
  clear hb1 hb2
  go_enter Try.func62, Try.ntmps62
  go_upto_region 1 with fail
  generalize ((w.alloc (.cells #[.int .i64 y.fl, .int .i64 y.dy, .int .i64 y.va, .int .i64 y.st, .int .i64 y.ho, .int .u64 y.nx] 37 (0, 0))).alloc (.cells #[.int .i64 0, .int .i64 0, .int .i64 0, .int .i64 0, .int .i64 0, .int .u64 0] 37 (0, 0))) = w2 at *
  have kc := fun j => cell_of_row w2 w.heap.size j _ _ _ HR0.out
  have tc := there_newT (w := w2) (zs := [.int .i64 0, .int .i64 0, .int .i64 0, .int .i64 0, .int .i64 0, .int .u64 0]) (e := 37) (n := 6) rfl
  have c6n : ([.int .i64 y.fl, .int .i64 y.dy, .int .i64 y.va, .int .i64 0, .int .i64 0, .int .u64 0] : List Value).length = 6 := rfl
  have c6c : ([.int .i64 y.fl, .int .i64 y.dy, .int .i64 y.va, .int .i64 0, .int .i64 0, .int .u64 0] : List Value).all (·.oneCell') = true := rfl
  have HGE : Hid (w.heap.size + 1 < w2.heap.size) := Lib.hid (block_lt HR1.out)
  go_upto_region 2 with fail
  have HP := Lib.hid (putRec (W := w2) (e := 37) (zs := [.int .i64 0, .int .i64 0, .int .i64 0, .int .i64 0, .int .i64 0, .int .u64 0]) (cs := [.int .i64 y.fl, .int .i64 y.dy, .int .i64 y.va, .int .i64 0, .int .i64 0, .int .u64 0]) rfl)
  have HR0 := Lib.hid ((HP.out.2.block _ (block_lt HR0.out)).trans HR0.out)
  have HR1 := Lib.hid ((HP.out.2.block _ (block_lt HR1.out)).trans HR1.out)
  have HB := Lib.hid (HB.out.trans (HP.out.2.mono HB.out.size))
  have HR2 := Lib.hid HP.out.1
  clear HP kc tc c6n c6c
  obtain ⟨f1, f2⟩ := row_loT 6 HR0.out rfl rfl
  obtain ⟨f3, f4⟩ := row_loT 6 HR2.out rfl rfl
  generalize hw3 : (w2.alloc (.cells #[.int .i64 0, .int .i64 0, .int .i64 0, .int .i64 0, .int .i64 0, .int .u64 0] 37 (0, 0))).setCells w2.heap.size 0 [.int .i64 y.fl, .int .i64 y.dy, .int .i64 y.va, .int .i64 0, .int .i64 0, .int .u64 0] = w3 at *
  clear hw3
  generalize w2.heap.size = g2 at *
  have kc := fun j => cell_of_row w3 w.heap.size j _ _ _ HR0.out
  go_cut [5] (fun cv wx => cv = .bool R ∧ wx = w3)
  case first =>
    cases q1
    · go_wp2_with (first | (go_at_call 25; refine (HWI.out _).mono ?_; rintro e wn ⟨rfl, rfl⟩) | (go_at_call 51; refine (HAM.out _).mono ?_; rintro e wn ⟨rfl, rfl⟩))
      all_goals go_meet
      all_goals exact ⟨by rw [HRV.out]; simp, rfl⟩
    · by_cases h1 : 1 ≤ y.fl
      · have H1 := Lib.hid h1
        by_cases h2 : y.fl ≤ 9999
        · have H2 := Lib.hid h2
          cases q2
          · go_wp2_with (first | (go_at_call 25; refine (HWI.out _).mono ?_; rintro e wn ⟨rfl, rfl⟩) | (go_at_call 51; refine (HAM.out _).mono ?_; rintro e wn ⟨rfl, rfl⟩))
            all_goals go_meet
            all_goals exact ⟨by rw [HRV.out]; simp, rfl⟩
          · go_wp2_with (first | (go_at_call 25; refine (HWI.out _).mono ?_; rintro e wn ⟨rfl, rfl⟩) | (go_at_call 51; refine (HAM.out _).mono ?_; rintro e wn ⟨rfl, rfl⟩))
            all_goals go_meet
            all_goals exact ⟨by rw [HRV.out]; simp [H1.out, H2.out], rfl⟩
        · have H2 := Lib.hid h2
          go_wp2_with (first | (go_at_call 25; refine (HWI.out _).mono ?_; rintro e wn ⟨rfl, rfl⟩) | (go_at_call 51; refine (HAM.out _).mono ?_; rintro e wn ⟨rfl, rfl⟩))
          all_goals go_meet
          all_goals exact ⟨by rw [HRV.out]; rw [decide_eq_false (show ¬ y.fl ≤ 9999 by have := H2.out; omega)]; simp, rfl⟩
      · have H1 := Lib.hid h1
        go_wp2_with (first | (go_at_call 25; refine (HWI.out _).mono ?_; rintro e wn ⟨rfl, rfl⟩) | (go_at_call 51; refine (HAM.out _).mono ?_; rintro e wn ⟨rfl, rfl⟩))
        all_goals go_meet
        all_goals exact ⟨by rw [HRV.out]; rw [decide_eq_false (show ¬ 1 ≤ y.fl by have := H1.out; omega)]; simp, rfl⟩
  case rest =>
    obtain ⟨rfl, hwx⟩ := hcut
    have hwx2 := hwx.symm
    clear hwx
    subst hwx2
    clear kc f1 f2 f3 f4
    have kc := fun j => cell_of_row w3 g2 j _ _ _ HR2.out
    have kf := fun j => frozen_of_row w3 g2 j _ _ HR2.out
    go_upto_region 4 with fail
    clear kc kf
    have HR1 := Lib.hid ((heap_setCell_other w3 ⟨g2, 3, none⟩ (w.heap.size + 1) (.int .i64 1) (by have := HGE.out; dsimp only; omega)).trans HR1.out)
    have HR2 : Hid ((w3.setCell ⟨g2, 3, none⟩ (.int .i64 1)).heap[g2]? = some (.cells #[.int .i64 y.fl, .int .i64 y.dy, .int .i64 y.va, .int .i64 1, .int .i64 0, .int .u64 0] 37 (0, 0))) := Lib.hid (heap_setCell_same _ _ _ _ _ _ HR2.out)
    have HB := Lib.hid (HB.out.setCell (p := ⟨g2, 3, none⟩) (by have := HGE.out; dsimp only; omega) (.int .i64 1))
    generalize w3.setCell ⟨g2, 3, none⟩ (.int .i64 1) = w4 at *
    obtain ⟨f3, f4⟩ := row_loT 6 HR2.out rfl rfl
    have th := there_rowT (n := 6) HR1.out rfl
    have h1n : ([.int .i64 y.fl, .int .i64 y.dy, .int .i64 y.va, .int .i64 1, .int .i64 0, .int .u64 0] : List Value).length = 6 := rfl
    have h1c : ([.int .i64 y.fl, .int .i64 y.dy, .int .i64 y.va, .int .i64 1, .int .i64 0, .int .u64 0] : List Value).all (·.oneCell') = true := rfl
    go_wp2_with fail
    have hr6 := setCells_rowT (g := w.heap.size + 1) (cs := [.int .i64 y.fl, .int .i64 y.dy, .int .i64 y.va, .int .i64 1, .int .i64 0, .int .u64 0]) HR1.out rfl
    (try simp only [Exit.inBlock, Exit.then])
    refine bodyPost_ret (results_cellT2 rfl _ _ (w.heap.size + 1) rfl (loadCp hr6 rfl)) rfl ?_
    exact ⟨rfl, Only.below HB.out (by omega) HB.out.size ((Only.refl (w.heap.size + 1) _).setCells 0 _)⟩

end Go.Proofs.Ytadabjkhiaidcaa
end

section
set_option linter.unusedVariables false
set_option linter.unusedSimpArgs false
namespace Go.Proofs.Ytadabjkhiaidcaa
open Go.RowKit

theorem nil_ne (w : World) (a : Option Addr) (n c n' c' : Nat) : (binOp .neq 113 (.slice a n c) (.slice none n' c')).run Try.prog w = .ok (.bool (!a.isNone)) w := by
  simp only [binOp]
  simp [Op.equal, Op.maxDepth, Lib.run_equalIn_slice_nil w 9999 113 5 a n c n' c' Try.underlying113]

theorem ret_intR {k : IntKind} {a b : Int} (h : a = b) : Ending.returned (.int k a) = .returned (.int k b) := by rw [h]
def rLen (st : Option (List UInt8)) : Nat := (st.getD []).length
/-- what is taken off: so many bytes -/
def rTake (st : Option (List UInt8)) (n : Int) : Option (List UInt8) := match st with | none => none | some l => if 0 ≤ n ∧ n ≤ l.length then some (l.take n.toNat) else none
def rRest (st : Option (List UInt8)) (n : Int) : Option (List UInt8) := match st with | none => none | some l => if 0 ≤ n ∧ n ≤ l.length then some (l.drop n.toNat) else none

theorem own_cut {w : World} {base g N cap a n : Nat} {L : List UInt8} (h : w.ownsRow base 5 1 (.slice (some ⟨g, 0, none⟩) N cap) N (bytesV L)) (hn : a + n ≤ N) (o c : Nat) (ho : n = 0 ∨ o = a) (hc : n ≤ c) (hcm : c ≤ maxLen) :
    BS w (.slice (some ⟨g, o, none⟩) n c) ((L.drop a).take n) := by
  have hlen : L.length = N := by have := h.1; rw [bytesV_length] at this; omega
  have hll : ((L.drop a).take n).length = n := by rw [List.length_take, List.length_drop]; omega
  refine ⟨_, c, by rw [hll], by omega, hcm, fun hne => ⟨g, o, rfl, ?_, fun i x hx => ?_⟩⟩
  · exact (h.lt g rfl).2
  · have hi : i < n := by have := (List.getElem?_eq_some_iff.1 hx).1; omega
    rcases ho with ho | ho
    · omega
    · subst ho
      rw [List.getElem?_take_of_lt hi, List.getElem?_drop] at hx
      have := h.cells (g := g) rfl (o + i) (.int .u8 (x.toNat : Int)) (by rw [bytesV_at, hx]; rfl)
      rwa [Go.WideShapes.add_plain, Nat.zero_add] at this

theorem run_cut (g N cap a n : Nat) (h : a + n ≤ cap) : ∃ o, (n = 0 ∨ o = a) ∧ ∀ W : World, (Instr.slice 113 (.slice (some ⟨g, 0, none⟩) N cap) (some (.int .i64 (a : Int))) (some (.int .i64 ((a : Int) + (n : Int)))) none).run Try.prog W = .ok (.slice (some ⟨g, o, none⟩) n (cap - a)) W := by
  have ht : Try.prog.underlying 113 = some (.slice (Try.prog.elem 113)) := by kernel_rfl
  have hz : ∀ W : World, (sizeOf (Try.prog.elem 113)).run Try.prog W = .ok 1 W := fun W => by
    rw [show Try.prog.elem 113 = 5 from by kernel_rfl]; simp [go_sem]
  by_cases hc : a = cap
  · refine ⟨0, .inl (by omega), fun W => ?_⟩
    rw [run_slice_lh W _ _ _ _ ht _ _ _ _ (by omega) (by omega) (by omega), hz]
    obtain rfl : n = 0 := by omega
    subst hc
    simp [sliced, Result.andThen]
  · refine ⟨a, .inr rfl, fun W => ?_⟩
    rw [run_slice_lh W _ _ _ _ ht _ _ _ _ (by omega) (by omega) (by omega), hz]
    have h1 : ¬ cap - a = 0 := by omega
    have h2 : ((a : Int) + (n : Int)).toNat - a = n := by omega
    simp [sliced, Result.andThen, h1, h2, Go.WideShapes.add_plain]
    intro e; omega

end Go.Proofs.Ytadabjkhiaidcaa
end
