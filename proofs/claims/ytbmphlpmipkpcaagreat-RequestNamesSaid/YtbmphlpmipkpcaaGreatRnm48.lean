/- Contract: the reference's mayPart (16). -/
import Derived.Test.YtbmphlpmipkpcaaGreatRnm47

set_option linter.unusedVariables false
set_option linter.unusedSimpArgs false
namespace Go.Proofs.YtbmphlpmipkpcaaGreat
open Go.RowKit Go.Deep

namespace Rq
/-- the part that a letter stands for -/
def fnOf (c : Int) : Nat := if c = 75 then 131 else if c = 68 then 132 else if c = 76 then 133 else if c = 84 then 136 else if c = 78 then 137 else if c = 83 then 138 else if c = 65 then 139 else if c = 74 then 134 else if c = 67 then 140 else if c = 88 then 135 else 141
theorem row_parts (k : Int) : (rowL k).map (fun c => fnOf (c.toNat : Int)) = partsF k := by
  rcases kind_cases k with rfl | rfl | rfl | rfl | rfl | rfl | rfl | rfl | rfl | rfl | hk
  all_goals first | rfl | (rw [rowL_out hk, (parts_out hk).1]; rfl)
end Rq
theorem may12q_any (n : Int) (w : World) : Calls Tryz.prog 125 #[.int .i64 n] w fun e w' => e = .returned (.bool (inB 1 9 n)) ∧ w = w' := by
  go_enter Tryz.func125, Tryz.ntmps125
  go_wp2
  all_goals
    go_ret
    refine ⟨ret_bool ?_, rfl⟩
    unfold inB
    simp; try omega
set_option maxRecDepth 8000 in
set_option maxHeartbeats 2000000 in
theorem rpart_key (x : Rqt) (hw : x.wf) (p q : Option Addr) (n cap m cap2 : Nat) (w : World) (hc : LS Cpn.cells 6 w (.slice p n cap) x.cs) (ht : LS Txx.cells 2 w (.slice q m cap2) x.xs) :
    Calls Tryz.prog 70 #[.agg #[.string x.key, .int .i64 x.k, .int .i64 x.d, .int .u64 x.tk, .int .i64 x.c, .int .i64 x.st, .string x.loc, .slice p n cap, .slice q m cap2, .int .i64 x.am, .int .i64 x.fr, .int .i64 x.tt], .int .u8 75] w fun e w' => e = .returned (.bool (Rq.partB 131 x)) ∧ Below w.heap.size w w' := by
  have hr1 := new_rowW w (.cells #[.string x.key, .int .i64 x.k, .int .i64 x.d, .int .u64 x.tk, .int .i64 x.c, .int .i64 x.st, .string x.loc, .slice p n cap, .slice q m cap2, .int .i64 x.am, .int .i64 x.fr, .int .i64 x.tt] 57 (0, 0)) _ rfl
  have HB := Lib.hid ((Below.refl w.heap.size w).alloc (Nat.le_refl _) (.cells #[.string x.key, .int .i64 x.k, .int .i64 x.d, .int .u64 x.tk, .int .i64 x.c, .int .i64 x.st, .string x.loc, .slice p n cap, .slice q m cap2, .int .i64 x.am, .int .i64 x.fr, .int .i64 x.tt] 57 (0, 0)))
  have HLC := Lib.hid (hc.below HB.out)
  have HLT := Lib.hid (ht.below HB.out)
  have kc := fun j => cell_of_row _ w.heap.size j _ _ _ hr1
  clear hr1 hc ht
  have HV : Hid (Rq.partB 131 x = Rq.keyB x.key.data.toList) := Lib.hid (by
    show (inB 1 16 (x.key.size : Int) && Rq.keyB x.key.data.toList) = _
    have hsz : x.key.data.toList.length = x.key.size := Array.length_toList
    rw [← hsz]
    clear kc HLC HLT HB hsz
    unfold Rq.keyB inB
    rw [Bool.eq_iff_iff]; simp; omega)
  go_enter Tryz.func70, Tryz.ntmps70
  go_wp2_with fail
  refine (rMayKey_any x.key _ hw.key).mono ?_
  rintro e w1 ⟨rfl, hw1⟩
  subst hw1
  clear kc
  go_wp2
  go_ret
  exact ⟨by rw [HV.out]; rfl, HB.out⟩
set_option maxRecDepth 8000 in
set_option maxHeartbeats 2000000 in
theorem rpart_on (x : Rqt) (hw : x.wf) (p q : Option Addr) (n cap m cap2 : Nat) (w : World) (hc : LS Cpn.cells 6 w (.slice p n cap) x.cs) (ht : LS Txx.cells 2 w (.slice q m cap2) x.xs) :
    Calls Tryz.prog 70 #[.agg #[.string x.key, .int .i64 x.k, .int .i64 x.d, .int .u64 x.tk, .int .i64 x.c, .int .i64 x.st, .string x.loc, .slice p n cap, .slice q m cap2, .int .i64 x.am, .int .i64 x.fr, .int .i64 x.tt], .int .u8 68] w fun e w' => e = .returned (.bool (Rq.partB 132 x)) ∧ Below w.heap.size w w' := by
  have hr1 := new_rowW w (.cells #[.string x.key, .int .i64 x.k, .int .i64 x.d, .int .u64 x.tk, .int .i64 x.c, .int .i64 x.st, .string x.loc, .slice p n cap, .slice q m cap2, .int .i64 x.am, .int .i64 x.fr, .int .i64 x.tt] 57 (0, 0)) _ rfl
  have HB := Lib.hid ((Below.refl w.heap.size w).alloc (Nat.le_refl _) (.cells #[.string x.key, .int .i64 x.k, .int .i64 x.d, .int .u64 x.tk, .int .i64 x.c, .int .i64 x.st, .string x.loc, .slice p n cap, .slice q m cap2, .int .i64 x.am, .int .i64 x.fr, .int .i64 x.tt] 57 (0, 0)))
  have HLC := Lib.hid (hc.below HB.out)
  have HLT := Lib.hid (ht.below HB.out)
  have kc := fun j => cell_of_row _ w.heap.size j _ _ _ hr1
  clear hr1 hc ht
  have HV : Hid (Rq.partB 132 x = inB 0 1000000 x.d) := Lib.hid rfl
  go_enter Tryz.func70, Tryz.ntmps70
  go_wp2_with fail
  refine (rday16_any x.d _).mono ?_
  rintro e w1 ⟨rfl, hw1⟩
  subst hw1
  clear kc
  go_wp2
  go_ret
  exact ⟨by rw [HV.out]; rfl, HB.out⟩
set_option maxRecDepth 8000 in
set_option maxHeartbeats 2000000 in
theorem rpart_locator (x : Rqt) (hw : x.wf) (p q : Option Addr) (n cap m cap2 : Nat) (w : World) (hc : LS Cpn.cells 6 w (.slice p n cap) x.cs) (ht : LS Txx.cells 2 w (.slice q m cap2) x.xs) :
    Calls Tryz.prog 70 #[.agg #[.string x.key, .int .i64 x.k, .int .i64 x.d, .int .u64 x.tk, .int .i64 x.c, .int .i64 x.st, .string x.loc, .slice p n cap, .slice q m cap2, .int .i64 x.am, .int .i64 x.fr, .int .i64 x.tt], .int .u8 76] w fun e w' => e = .returned (.bool (Rq.partB 133 x)) ∧ Below w.heap.size w w' := by
  have hr1 := new_rowW w (.cells #[.string x.key, .int .i64 x.k, .int .i64 x.d, .int .u64 x.tk, .int .i64 x.c, .int .i64 x.st, .string x.loc, .slice p n cap, .slice q m cap2, .int .i64 x.am, .int .i64 x.fr, .int .i64 x.tt] 57 (0, 0)) _ rfl
  have HB := Lib.hid ((Below.refl w.heap.size w).alloc (Nat.le_refl _) (.cells #[.string x.key, .int .i64 x.k, .int .i64 x.d, .int .u64 x.tk, .int .i64 x.c, .int .i64 x.st, .string x.loc, .slice p n cap, .slice q m cap2, .int .i64 x.am, .int .i64 x.fr, .int .i64 x.tt] 57 (0, 0)))
  have HLC := Lib.hid (hc.below HB.out)
  have HLT := Lib.hid (ht.below HB.out)
  have kc := fun j => cell_of_row _ w.heap.size j _ _ _ hr1
  clear hr1 hc ht
  have HV : Hid (Rq.partB 133 x = Num.loc x.loc.data.toList) := Lib.hid rfl
  go_enter Tryz.func70, Tryz.ntmps70
  go_wp2_with fail
  refine (refLocator_any x.loc _ hw.loc).mono ?_
  rintro e w1 ⟨rfl, hw1⟩
  subst hw1
  clear kc
  go_wp2
  go_ret
  exact ⟨by rw [HV.out]; rfl, HB.out⟩
set_option maxRecDepth 8000 in
set_option maxHeartbeats 2000000 in
theorem rpart_of (x : Rqt) (hw : x.wf) (p q : Option Addr) (n cap m cap2 : Nat) (w : World) (hc : LS Cpn.cells 6 w (.slice p n cap) x.cs) (ht : LS Txx.cells 2 w (.slice q m cap2) x.xs) :
    Calls Tryz.prog 70 #[.agg #[.string x.key, .int .i64 x.k, .int .i64 x.d, .int .u64 x.tk, .int .i64 x.c, .int .i64 x.st, .string x.loc, .slice p n cap, .slice q m cap2, .int .i64 x.am, .int .i64 x.fr, .int .i64 x.tt], .int .u8 84] w fun e w' => e = .returned (.bool (Rq.partB 136 x)) ∧ Below w.heap.size w w' := by
  have hr1 := new_rowW w (.cells #[.string x.key, .int .i64 x.k, .int .i64 x.d, .int .u64 x.tk, .int .i64 x.c, .int .i64 x.st, .string x.loc, .slice p n cap, .slice q m cap2, .int .i64 x.am, .int .i64 x.fr, .int .i64 x.tt] 57 (0, 0)) _ rfl
  have HB := Lib.hid ((Below.refl w.heap.size w).alloc (Nat.le_refl _) (.cells #[.string x.key, .int .i64 x.k, .int .i64 x.d, .int .u64 x.tk, .int .i64 x.c, .int .i64 x.st, .string x.loc, .slice p n cap, .slice q m cap2, .int .i64 x.am, .int .i64 x.fr, .int .i64 x.tt] 57 (0, 0)))
  have HLC := Lib.hid (hc.below HB.out)
  have HLT := Lib.hid (ht.below HB.out)
  have kc := fun j => cell_of_row _ w.heap.size j _ _ _ hr1
  clear hr1 hc ht
  have HV : Hid (Rq.partB 136 x = Tkt.numB x.tk) := Lib.hid rfl
  go_enter Tryz.func70, Tryz.ntmps70
  go_wp2_with fail
  refine (numbered13_any x.tk hw.tk _).mono ?_
  rintro e w1 ⟨rfl, hb⟩
  have HB2 := Lib.hid (HB.out.trans (hb.mono HB.out.size))
  clear kc hb
  go_wp2
  go_ret
  exact ⟨by rw [HV.out]; rfl, HB2.out⟩
set_option maxRecDepth 8000 in
set_option maxHeartbeats 2000000 in
theorem rpart_coupon (x : Rqt) (hw : x.wf) (p q : Option Addr) (n cap m cap2 : Nat) (w : World) (hc : LS Cpn.cells 6 w (.slice p n cap) x.cs) (ht : LS Txx.cells 2 w (.slice q m cap2) x.xs) :
    Calls Tryz.prog 70 #[.agg #[.string x.key, .int .i64 x.k, .int .i64 x.d, .int .u64 x.tk, .int .i64 x.c, .int .i64 x.st, .string x.loc, .slice p n cap, .slice q m cap2, .int .i64 x.am, .int .i64 x.fr, .int .i64 x.tt], .int .u8 78] w fun e w' => e = .returned (.bool (Rq.partB 137 x)) ∧ Below w.heap.size w w' := by
  have hr1 := new_rowW w (.cells #[.string x.key, .int .i64 x.k, .int .i64 x.d, .int .u64 x.tk, .int .i64 x.c, .int .i64 x.st, .string x.loc, .slice p n cap, .slice q m cap2, .int .i64 x.am, .int .i64 x.fr, .int .i64 x.tt] 57 (0, 0)) _ rfl
  have HB := Lib.hid ((Below.refl w.heap.size w).alloc (Nat.le_refl _) (.cells #[.string x.key, .int .i64 x.k, .int .i64 x.d, .int .u64 x.tk, .int .i64 x.c, .int .i64 x.st, .string x.loc, .slice p n cap, .slice q m cap2, .int .i64 x.am, .int .i64 x.fr, .int .i64 x.tt] 57 (0, 0)))
  have HLC := Lib.hid (hc.below HB.out)
  have HLT := Lib.hid (ht.below HB.out)
  have kc := fun j => cell_of_row _ w.heap.size j _ _ _ hr1
  clear hr1 hc ht
  have HV : Hid (Rq.partB 137 x = inB 1 4 x.c) := Lib.hid rfl
  go_enter Tryz.func70, Tryz.ntmps70
  go_wp2_with fail
  all_goals
    go_ret
    refine ⟨ret_bool ?_, HB.out⟩
    show _ = inB 1 4 x.c
    unfold inB
    rw [Bool.eq_iff_iff]; simp; try omega
set_option maxRecDepth 8000 in
set_option maxHeartbeats 2000000 in
theorem rpart_status (x : Rqt) (hw : x.wf) (p q : Option Addr) (n cap m cap2 : Nat) (w : World) (hc : LS Cpn.cells 6 w (.slice p n cap) x.cs) (ht : LS Txx.cells 2 w (.slice q m cap2) x.xs) :
    Calls Tryz.prog 70 #[.agg #[.string x.key, .int .i64 x.k, .int .i64 x.d, .int .u64 x.tk, .int .i64 x.c, .int .i64 x.st, .string x.loc, .slice p n cap, .slice q m cap2, .int .i64 x.am, .int .i64 x.fr, .int .i64 x.tt], .int .u8 83] w fun e w' => e = .returned (.bool (Rq.partB 138 x)) ∧ Below w.heap.size w w' := by
  have hr1 := new_rowW w (.cells #[.string x.key, .int .i64 x.k, .int .i64 x.d, .int .u64 x.tk, .int .i64 x.c, .int .i64 x.st, .string x.loc, .slice p n cap, .slice q m cap2, .int .i64 x.am, .int .i64 x.fr, .int .i64 x.tt] 57 (0, 0)) _ rfl
  have HB := Lib.hid ((Below.refl w.heap.size w).alloc (Nat.le_refl _) (.cells #[.string x.key, .int .i64 x.k, .int .i64 x.d, .int .u64 x.tk, .int .i64 x.c, .int .i64 x.st, .string x.loc, .slice p n cap, .slice q m cap2, .int .i64 x.am, .int .i64 x.fr, .int .i64 x.tt] 57 (0, 0)))
  have HLC := Lib.hid (hc.below HB.out)
  have HLT := Lib.hid (ht.below HB.out)
  have kc := fun j => cell_of_row _ w.heap.size j _ _ _ hr1
  clear hr1 hc ht
  have HV : Hid (Rq.partB 138 x = inB 1 9 x.st) := Lib.hid rfl
  go_enter Tryz.func70, Tryz.ntmps70
  go_wp2_with fail
  refine (may12q_any x.st _).mono ?_
  rintro e w1 ⟨rfl, hw1⟩
  subst hw1
  clear kc
  go_wp2
  go_ret
  exact ⟨by rw [HV.out]; rfl, HB.out⟩
set_option maxRecDepth 8000 in
set_option maxHeartbeats 2000000 in
theorem rpart_amount (x : Rqt) (hw : x.wf) (p q : Option Addr) (n cap m cap2 : Nat) (w : World) (hc : LS Cpn.cells 6 w (.slice p n cap) x.cs) (ht : LS Txx.cells 2 w (.slice q m cap2) x.xs) :
    Calls Tryz.prog 70 #[.agg #[.string x.key, .int .i64 x.k, .int .i64 x.d, .int .u64 x.tk, .int .i64 x.c, .int .i64 x.st, .string x.loc, .slice p n cap, .slice q m cap2, .int .i64 x.am, .int .i64 x.fr, .int .i64 x.tt], .int .u8 65] w fun e w' => e = .returned (.bool (Rq.partB 139 x)) ∧ Below w.heap.size w w' := by
  have hr1 := new_rowW w (.cells #[.string x.key, .int .i64 x.k, .int .i64 x.d, .int .u64 x.tk, .int .i64 x.c, .int .i64 x.st, .string x.loc, .slice p n cap, .slice q m cap2, .int .i64 x.am, .int .i64 x.fr, .int .i64 x.tt] 57 (0, 0)) _ rfl
  have HB := Lib.hid ((Below.refl w.heap.size w).alloc (Nat.le_refl _) (.cells #[.string x.key, .int .i64 x.k, .int .i64 x.d, .int .u64 x.tk, .int .i64 x.c, .int .i64 x.st, .string x.loc, .slice p n cap, .slice q m cap2, .int .i64 x.am, .int .i64 x.fr, .int .i64 x.tt] 57 (0, 0)))
  have HLC := Lib.hid (hc.below HB.out)
  have HLT := Lib.hid (ht.below HB.out)
  have kc := fun j => cell_of_row _ w.heap.size j _ _ _ hr1
  clear hr1 hc ht
  have HV : Hid (Rq.partB 139 x = inB 0 1000000000000 x.am) := Lib.hid rfl
  go_enter Tryz.func70, Tryz.ntmps70
  go_wp2_with fail
  refine (rsome16_any x.am _).mono ?_
  rintro e w1 ⟨rfl, hw1⟩
  subst hw1
  clear kc
  go_wp2
  go_ret
  exact ⟨by rw [HV.out]; rfl, HB.out⟩
set_option maxRecDepth 8000 in
set_option maxHeartbeats 2000000 in
theorem rpart_journey (x : Rqt) (hw : x.wf) (p q : Option Addr) (n cap m cap2 : Nat) (w : World) (hc : LS Cpn.cells 6 w (.slice p n cap) x.cs) (ht : LS Txx.cells 2 w (.slice q m cap2) x.xs) :
    Calls Tryz.prog 70 #[.agg #[.string x.key, .int .i64 x.k, .int .i64 x.d, .int .u64 x.tk, .int .i64 x.c, .int .i64 x.st, .string x.loc, .slice p n cap, .slice q m cap2, .int .i64 x.am, .int .i64 x.fr, .int .i64 x.tt], .int .u8 74] w fun e w' => e = .returned (.bool (Rq.partB 134 x)) ∧ Below w.heap.size w w' := by
  have hr1 := new_rowW w (.cells #[.string x.key, .int .i64 x.k, .int .i64 x.d, .int .u64 x.tk, .int .i64 x.c, .int .i64 x.st, .string x.loc, .slice p n cap, .slice q m cap2, .int .i64 x.am, .int .i64 x.fr, .int .i64 x.tt] 57 (0, 0)) _ rfl
  have HB := Lib.hid ((Below.refl w.heap.size w).alloc (Nat.le_refl _) (.cells #[.string x.key, .int .i64 x.k, .int .i64 x.d, .int .u64 x.tk, .int .i64 x.c, .int .i64 x.st, .string x.loc, .slice p n cap, .slice q m cap2, .int .i64 x.am, .int .i64 x.fr, .int .i64 x.tt] 57 (0, 0)))
  have HLC := Lib.hid (hc.below HB.out)
  have HLT := Lib.hid (ht.below HB.out)
  have kc := fun j => cell_of_row _ w.heap.size j _ _ _ hr1
  clear hr1 hc ht
  have HV : Hid (Rq.partB 134 x = Rq.coupB 12 x.cs) := Lib.hid rfl
  go_enter Tryz.func70, Tryz.ntmps70
  go_wp2_with fail
  refine (rmayCp_any x.cs 12 p n cap _ HLC.out).mono ?_
  rintro e w1 ⟨rfl, hb⟩
  have HB2 := Lib.hid (HB.out.trans (hb.mono HB.out.size))
  clear kc hb
  go_wp2
  go_ret
  exact ⟨by rw [HV.out]; rfl, HB2.out⟩
set_option maxRecDepth 8000 in
set_option maxHeartbeats 2000000 in
theorem rpart_anew (x : Rqt) (hw : x.wf) (p q : Option Addr) (n cap m cap2 : Nat) (w : World) (hc : LS Cpn.cells 6 w (.slice p n cap) x.cs) (ht : LS Txx.cells 2 w (.slice q m cap2) x.xs) :
    Calls Tryz.prog 70 #[.agg #[.string x.key, .int .i64 x.k, .int .i64 x.d, .int .u64 x.tk, .int .i64 x.c, .int .i64 x.st, .string x.loc, .slice p n cap, .slice q m cap2, .int .i64 x.am, .int .i64 x.fr, .int .i64 x.tt], .int .u8 67] w fun e w' => e = .returned (.bool (Rq.partB 140 x)) ∧ Below w.heap.size w w' := by
  have hr1 := new_rowW w (.cells #[.string x.key, .int .i64 x.k, .int .i64 x.d, .int .u64 x.tk, .int .i64 x.c, .int .i64 x.st, .string x.loc, .slice p n cap, .slice q m cap2, .int .i64 x.am, .int .i64 x.fr, .int .i64 x.tt] 57 (0, 0)) _ rfl
  have HB := Lib.hid ((Below.refl w.heap.size w).alloc (Nat.le_refl _) (.cells #[.string x.key, .int .i64 x.k, .int .i64 x.d, .int .u64 x.tk, .int .i64 x.c, .int .i64 x.st, .string x.loc, .slice p n cap, .slice q m cap2, .int .i64 x.am, .int .i64 x.fr, .int .i64 x.tt] 57 (0, 0)))
  have HLC := Lib.hid (hc.below HB.out)
  have HLT := Lib.hid (ht.below HB.out)
  have kc := fun j => cell_of_row _ w.heap.size j _ _ _ hr1
  clear hr1 hc ht
  have HV : Hid (Rq.partB 140 x = Rq.coupB 4 x.cs) := Lib.hid rfl
  go_enter Tryz.func70, Tryz.ntmps70
  go_wp2_with fail
  refine (rmayCp_any x.cs 4 p n cap _ HLC.out).mono ?_
  rintro e w1 ⟨rfl, hb⟩
  have HB2 := Lib.hid (HB.out.trans (hb.mono HB.out.size))
  clear kc hb
  go_wp2
  go_ret
  exact ⟨by rw [HV.out]; rfl, HB2.out⟩
set_option maxRecDepth 8000 in
set_option maxHeartbeats 2000000 in
theorem rpart_taxes (x : Rqt) (hw : x.wf) (p q : Option Addr) (n cap m cap2 : Nat) (w : World) (hc : LS Cpn.cells 6 w (.slice p n cap) x.cs) (ht : LS Txx.cells 2 w (.slice q m cap2) x.xs) :
    Calls Tryz.prog 70 #[.agg #[.string x.key, .int .i64 x.k, .int .i64 x.d, .int .u64 x.tk, .int .i64 x.c, .int .i64 x.st, .string x.loc, .slice p n cap, .slice q m cap2, .int .i64 x.am, .int .i64 x.fr, .int .i64 x.tt], .int .u8 88] w fun e w' => e = .returned (.bool (Rq.partB 135 x)) ∧ Below w.heap.size w w' := by
  have hr1 := new_rowW w (.cells #[.string x.key, .int .i64 x.k, .int .i64 x.d, .int .u64 x.tk, .int .i64 x.c, .int .i64 x.st, .string x.loc, .slice p n cap, .slice q m cap2, .int .i64 x.am, .int .i64 x.fr, .int .i64 x.tt] 57 (0, 0)) _ rfl
  have HB := Lib.hid ((Below.refl w.heap.size w).alloc (Nat.le_refl _) (.cells #[.string x.key, .int .i64 x.k, .int .i64 x.d, .int .u64 x.tk, .int .i64 x.c, .int .i64 x.st, .string x.loc, .slice p n cap, .slice q m cap2, .int .i64 x.am, .int .i64 x.fr, .int .i64 x.tt] 57 (0, 0)))
  have HLC := Lib.hid (hc.below HB.out)
  have HLT := Lib.hid (ht.below HB.out)
  have kc := fun j => cell_of_row _ w.heap.size j _ _ _ hr1
  clear hr1 hc ht
  have HV : Hid (Rq.partB 135 x = Rq.taxesB x.xs) := Lib.hid rfl
  go_enter Tryz.func70, Tryz.ntmps70
  go_wp2_with fail
  refine (rmayTx_any x.xs q m cap2 _ HLT.out).mono ?_
  rintro e w1 ⟨rfl, hb⟩
  have HB2 := Lib.hid (HB.out.trans (hb.mono HB.out.size))
  clear kc hb
  go_wp2
  go_ret
  exact ⟨by rw [HV.out]; rfl, HB2.out⟩
set_option maxRecDepth 8000 in
set_option maxHeartbeats 2000000 in
theorem rpart_days (x : Rqt) (hw : x.wf) (p q : Option Addr) (n cap m cap2 : Nat) (w : World) (hc : LS Cpn.cells 6 w (.slice p n cap) x.cs) (ht : LS Txx.cells 2 w (.slice q m cap2) x.xs) :
    Calls Tryz.prog 70 #[.agg #[.string x.key, .int .i64 x.k, .int .i64 x.d, .int .u64 x.tk, .int .i64 x.c, .int .i64 x.st, .string x.loc, .slice p n cap, .slice q m cap2, .int .i64 x.am, .int .i64 x.fr, .int .i64 x.tt], .int .u8 82] w fun e w' => e = .returned (.bool (Rq.partB 141 x)) ∧ Below w.heap.size w w' := by
  have hr1 := new_rowW w (.cells #[.string x.key, .int .i64 x.k, .int .i64 x.d, .int .u64 x.tk, .int .i64 x.c, .int .i64 x.st, .string x.loc, .slice p n cap, .slice q m cap2, .int .i64 x.am, .int .i64 x.fr, .int .i64 x.tt] 57 (0, 0)) _ rfl
  have HB := Lib.hid ((Below.refl w.heap.size w).alloc (Nat.le_refl _) (.cells #[.string x.key, .int .i64 x.k, .int .i64 x.d, .int .u64 x.tk, .int .i64 x.c, .int .i64 x.st, .string x.loc, .slice p n cap, .slice q m cap2, .int .i64 x.am, .int .i64 x.fr, .int .i64 x.tt] 57 (0, 0)))
  have HLC := Lib.hid (hc.below HB.out)
  have HLT := Lib.hid (ht.below HB.out)
  have kc := fun j => cell_of_row _ w.heap.size j _ _ _ hr1
  clear hr1 hc ht
  have HV : Hid (Rq.partB 141 x = (inB 0 1000000 x.fr && inB 0 1000000 x.tt)) := Lib.hid rfl
  go_enter Tryz.func70, Tryz.ntmps70
  go_wp2_with fail
  refine (rday16_any x.fr _).mono ?_
  rintro e w1 ⟨rfl, hw1⟩
  subst hw1
  obtain ⟨q1, hq1⟩ : ∃ z, inB 0 1000000 x.fr = z := ⟨_, rfl⟩
  rw [hq1]
  have HQ1 := Lib.hid hq1
  clear hq1
  cases q1
  · go_wp2_with fail
    go_ret
    exact ⟨ret_bool (by rw [show Rq.partB 141 x = (inB 0 1000000 x.fr && inB 0 1000000 x.tt) from rfl, HQ1.out]; rfl), HB.out⟩
  · go_wp2_with fail
    refine (rday16_any x.tt _).mono ?_
    rintro e w2 ⟨rfl, hw2⟩
    subst hw2
    go_wp2_with fail
    go_ret
    exact ⟨ret_bool (by rw [show Rq.partB 141 x = (inB 0 1000000 x.fr && inB 0 1000000 x.tt) from rfl, HQ1.out]; rfl), HB.out⟩
end Go.Proofs.YtbmphlpmipkpcaaGreat
