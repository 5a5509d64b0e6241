/- Contracts: a request's parts, weighed (request.asked: key, on, locator, of, coupon, status, amount, days); which keys may be. -/
import Derived.Test.YtbmphlpmipkpcaaGreatRnm5
import Derived.Test.YtbmphlpmipkpcaaGreatRnm6
import Derived.Deep.Cut

set_option linter.unusedVariables false
set_option linter.unusedSimpArgs false
namespace Go.Proofs.YtbmphlpmipkpcaaGreat
open Go.RowKit

namespace Rq
def keyByte (c : UInt8) : Bool := (decide (97 ≤ c.toNat) && decide (c.toNat ≤ 122)) || (decide (48 ≤ c.toNat) && decide (c.toNat ≤ 57))
/-- may a key be? -/
def keyB (l : List UInt8) : Bool := l.all keyByte && decide (1 ≤ l.length) && decide (l.length ≤ 16)
theorem keyByte_yes {c : UInt8} (h : (97 ≤ (c.toNat : Int) ∧ (c.toNat : Int) ≤ 122) ∨ (48 ≤ (c.toNat : Int) ∧ (c.toNat : Int) ≤ 57)) : keyByte c = true := by
  unfold keyByte; simp; omega
theorem keyByte_no {c : UInt8} (h : ¬ ((97 ≤ (c.toNat : Int) ∧ (c.toNat : Int) ≤ 122) ∨ (48 ≤ (c.toNat : Int) ∧ (c.toNat : Int) ≤ 57))) : keyByte c = false := by
  unfold keyByte; rw [Bool.eq_false_iff]; simp; omega
theorem all_stepK {l : List UInt8} {k : Nat} {c : UInt8} {p : UInt8 → Bool} {b : Bool} (h : l.drop k = c :: l.drop (k + 1)) (hc : p c = b) : (l.drop k).all p = (b && (l.drop (k + 1)).all p) := by
  rw [h, List.all_cons, hc]
theorem iv_key (v : Int) : v < 48 ∨ (48 ≤ v ∧ v ≤ 57) ∨ (57 < v ∧ v < 97) ∨ (97 ≤ v ∧ v ≤ 122) ∨ 122 < v := by omega
end Rq

set_option maxHeartbeats 400000 in
theorem mayKey_any (s : ByteArray) (w : World) (hs : s.size ≤ maxLen) :
    Calls Tryz.prog 28 #[.string s] w fun e w' => e = .returned (.bool (Rq.keyB s.data.toList)) ∧ Below w.heap.size w w' := by
  unfold maxLen at hs
  go_enter Tryz.func28, Tryz.ntmps28
  go_wp2
  go_loopw [4] (fun _ w' => ∃ k : Nat, k ≤ s.size ∧ w' = w.iter s k ∧ s.data.toList.all Rq.keyByte = (s.data.toList.drop k).all Rq.keyByte) (fun _ w' => s.size - w'.iterPos w.heap.size)
  case atStart => exact ⟨0, Nat.zero_le _, rfl, rfl⟩
  case round =>
    obtain ⟨k, hk, rfl, hall⟩ := hrel
    have HA := Lib.hid hall; clear hall
    by_cases hlt : k < s.size
    · have HD := Lib.hid (drop_step s k hlt)
      by_cases ha : (s[k]'hlt).toNat < 128
      · have hnx : ∀ ty, (Instr.next (.pointer (some ⟨w.heap.size, 0, none⟩)) true ty).run Tryz.prog (w.iter s k) = _ := fun ty => run_next_ascii w s k ty hlt ha
        rcases Rq.iv_key (s[k].toNat : Int) with hb | ⟨hb, hb'⟩ | ⟨hb, hb'⟩ | ⟨hb, hb'⟩ | hb
        case inr.inl | inr.inr.inr.inl =>
          all_goals
            have HS := Lib.hid (Rq.all_stepK HD.out (Rq.keyByte_yes (by omega)))
            go_wp2
            go_roundw
            case rel => exact ⟨k + 1, by omega, rfl, by rw [HA.out, HS.out]; rfl⟩
            case measure => simp; omega
        all_goals
          have HS := Lib.hid (Rq.all_stepK HD.out (Rq.keyByte_no (by omega)))
          go_wp2
          go_ret
          exact ⟨ret_bool (by unfold Rq.keyB; rw [HA.out, HS.out]; rfl), iter_below _ _ _⟩
      · have hnx : ∀ ty, (Instr.next (.pointer (some ⟨w.heap.size, 0, none⟩)) true ty).run Tryz.prog (w.iter s k) = _ := fun ty => run_next_any w s k ty hlt
        have hh := (decode_high s k hlt (by omega)).1
        have HS := Lib.hid (Rq.all_stepK HD.out (Rq.keyByte_no (by omega)))
        go_wp2
        all_goals
          go_ret
          exact ⟨ret_bool (by unfold Rq.keyB; rw [HA.out, HS.out]; rfl), iter_below _ _ _⟩
    · have hnx : ∀ ty, (Instr.next (.pointer (some ⟨w.heap.size, 0, none⟩)) true ty).run Tryz.prog (w.iter s k) = _ := fun ty => run_next_end w s k ty hlt
      have HD := Lib.hid (drop_end s k hlt)
      go_wp2
      all_goals
        go_ret
        refine ⟨ret_bool ?_, iter_below _ _ _⟩
        unfold Rq.keyB
        rw [HA.out, HD.out]
        rw [Bool.eq_iff_iff]; simp; omega

set_option maxHeartbeats 1000000 in
theorem pstate_any (T U : TypeId) (cs ds : Array Value) (g b o : Nat) (gd : Bool) (v : Int) (w : World) (hx : w.heap[g]? = some (.cells cs T (0, 0))) (hy : w.heap[b]? = some (.cells ds U (0, 0))) (hne : b ≠ g)
    (h0 : cs[0]? = some (.pointer none)) (h1 : cs[1]? = some (.pointer none)) (h2 : cs[2]? = some (.bool gd)) (hv : ds[o]? = some (.int .i64 v)) (hw : I64 v) :
    Calls Tryz.prog 117 #[.pointer (some ⟨g, 0, none⟩), .pointer (some ⟨b, o, none⟩)] w fun e w' => e = .returned (.tuple #[]) ∧
      w'.heap[g]? = some (.cells (cs.setIfInBounds 2 (.bool (gd && inB 1 9 v))) T (0, 0)) ∧ w'.heap[b]? = some (.cells (ds.setIfInBounds o (.int .i64 0)) U (0, 0)) ∧ Turn (fun k => k = g ∨ k = b) w w' := by
  have d0 : w.cell? ⟨b, o, none⟩ = some (.int .i64 v) := (cell_of_row w b o _ _ _ hy).trans hv
  have hgl := block_lt hx
  have hbl := block_lt hy
  have HX := Lib.hid (row_allocS hx (.cells #[.int .i64 v] 3)); have HY := Lib.hid (row_allocS hy (.cells #[.int .i64 v] 3)); have HV := Lib.hid hv
  have HM := Lib.hid (new_rowW w (.cells #[.int .i64 v] 3) _ rfl)
  have HN := Lib.hid (fun W hx hy hne => pnumber_any T 3 cs #[.int .i64 v] g w.heap.size 0 gd v 1 1 9 W hx hy hne h0 h1 h2 rfl)
  have HG := Lib.hid hgl; have HBL := Lib.hid hbl; have HNE := Lib.hid hne
  clear hx hy h0 h1 h2 hv hgl hbl hne
  unfold I64 at hw
  go_enter Tryz.func117, Tryz.ntmps117
  go_wp2_with fail
  refine (HN.out _ HX.out HM.out (by have := HG.out; omega)).mono ?_
  rintro e w1 ⟨rfl, hx1, hm1, ht1⟩
  have hy1 : w1.heap[b]? = some (.cells ds U (0, 0)) := (ht1.block b (block_lt HY.out) (by have := HBL.out; have := HNE.out; rintro (h | h) <;> omega)).trans HY.out
  have hf1 := fun j => frozen_of_row w1 b j _ _ hy1
  have d1 : w1.cell? ⟨b, o, none⟩ = some (.int .i64 v) := (cell_of_row w1 b o _ _ _ hy1).trans HV.out
  have cm := cell_of_row w1 w.heap.size 0 _ _ _ hm1
  have cm' : w1.cell? ⟨w.heap.size, 0, none⟩ = some (.int .i64 0) := cm
  have HX1 := Lib.hid hx1; have HY1 := Lib.hid hy1; have HT1 := Lib.hid ht1
  clear hx1 hm1 hy1 ht1 cm
  go_wp2
  go_end0
  refine ⟨rfl, (heap_setCell_other _ _ _ _ (Ne.symm HNE.out)).trans HX1.out, heap_setCell_same _ _ _ _ _ _ HY1.out, ?_⟩
  refine Turn.setCell ?_ (.inr rfl) _ _
  exact ((Turn.refl _ w).alloc _).after HT1.out (fun i hi h => by rcases h with h | h; exact .inl h; omega)

set_option maxHeartbeats 1000000 in
theorem ptextL_any (T U : TypeId) (cs ds : Array Value) (g b o : Nat) (gd : Bool) (s : ByteArray) (m : Int) (hs : s.size ≤ maxLen) (w : World) (hx : w.heap[g]? = some (.cells cs T (0, 0))) (hy : w.heap[b]? = some (.cells ds U (0, 0))) (hne : b ≠ g)
    (h0 : cs[0]? = some (.pointer none)) (h1 : cs[1]? = some (.pointer none)) (h2 : cs[2]? = some (.bool gd)) (hv : ds[o]? = some (.string s)) :
    Calls Tryz.prog 187 #[.pointer (some ⟨g, 0, none⟩), .pointer (some ⟨b, o, none⟩), .int .i64 m, .func (.func 188) #[] #[]] w fun e w' => e = .returned (.tuple #[]) ∧
      w'.heap[g]? = some (.cells (cs.setIfInBounds 2 (.bool (gd && Num.loc s.data.toList))) T (0, 0)) ∧ w'.heap[b]? = some (.cells (ds.setIfInBounds o (.string ⟨#[]⟩)) U (0, 0)) ∧ Turn (fun k => k = g ∨ k = b) w w' := by
  have c0 : w.cell? ⟨g, 0, none⟩ = some (.pointer none) := (cell_of_row w g 0 _ _ _ hx).trans h0
  have c1 : w.cell? ⟨g, 1, none⟩ = some (.pointer none) := (cell_of_row w g 1 _ _ _ hx).trans h1
  have d0 : w.cell? ⟨b, o, none⟩ = some (.string s) := (cell_of_row w b o _ _ _ hy).trans hv
  have HW := Lib.hid (fun W may hx => pweigh_any T cs g gd may W hx h2)
  have HX := Lib.hid hx; have HY := Lib.hid hy; have HV := Lib.hid hv; have HNE := Lib.hid hne
  have HCK := Lib.hid (fun W => locator_any s W hs)
  generalize Num.loc s.data.toList = q at *
  clear hx hy h0 h1 h2 hv hne
  go_enter Tryz.func187, Tryz.ntmps187
  go_wp2_with fail
  refine (HCK.out _).mono ?_
  rintro e w0 ⟨rfl, hb0⟩
  have HX0 := Lib.hid ((hb0.block _ (block_lt HX.out)).trans HX.out)
  have HY0 := Lib.hid ((hb0.block _ (block_lt HY.out)).trans HY.out)
  have HT0 := Lib.hid (Turn.of_below (S := fun k => k = g ∨ k = b) hb0)
  have HGB := Lib.hid (block_lt HX.out)
  clear hb0 c0 c1 d0
  go_wp2_with fail
  refine (HW.out _ _ HX0.out).mono ?_
  rintro e w1 ⟨rfl, hx1, ht1⟩
  have hy1 := (ht1.block _ (block_lt HY0.out) HNE.out).trans HY0.out
  have hf1 := fun j => frozen_of_row w1 b j _ _ hy1
  have d1 : w1.cell? ⟨b, o, none⟩ = some (.string s) := (cell_of_row w1 b o _ _ _ hy1).trans HV.out
  have HX1 := Lib.hid hx1; have HY1 := Lib.hid hy1; have HT1 := Lib.hid ht1
  clear hx1 hy1 ht1
  go_wp2
  go_end0
  refine ⟨rfl, (heap_setCell_other _ _ _ _ (Ne.symm HNE.out)).trans HX1.out, heap_setCell_same _ _ _ _ _ _ HY1.out, ?_⟩
  exact (HT0.out.trans (HT1.out.mono fun k _ hk => .inl hk)).setCell (.inr rfl) _ _

set_option maxHeartbeats 1000000 in
theorem ptextK_any (T U : TypeId) (cs ds : Array Value) (g b o : Nat) (gd : Bool) (s : ByteArray) (m : Int) (hs : s.size ≤ maxLen) (w : World) (hx : w.heap[g]? = some (.cells cs T (0, 0))) (hy : w.heap[b]? = some (.cells ds U (0, 0))) (hne : b ≠ g)
    (h0 : cs[0]? = some (.pointer none)) (h1 : cs[1]? = some (.pointer none)) (h2 : cs[2]? = some (.bool gd)) (hv : ds[o]? = some (.string s)) :
    Calls Tryz.prog 187 #[.pointer (some ⟨g, 0, none⟩), .pointer (some ⟨b, o, none⟩), .int .i64 m, .func (.func 28) #[] #[]] w fun e w' => e = .returned (.tuple #[]) ∧
      w'.heap[g]? = some (.cells (cs.setIfInBounds 2 (.bool (gd && Rq.keyB s.data.toList))) T (0, 0)) ∧ w'.heap[b]? = some (.cells (ds.setIfInBounds o (.string ⟨#[]⟩)) U (0, 0)) ∧ Turn (fun k => k = g ∨ k = b) w w' := by
  have c0 : w.cell? ⟨g, 0, none⟩ = some (.pointer none) := (cell_of_row w g 0 _ _ _ hx).trans h0
  have c1 : w.cell? ⟨g, 1, none⟩ = some (.pointer none) := (cell_of_row w g 1 _ _ _ hx).trans h1
  have d0 : w.cell? ⟨b, o, none⟩ = some (.string s) := (cell_of_row w b o _ _ _ hy).trans hv
  have HW := Lib.hid (fun W may hx => pweigh_any T cs g gd may W hx h2)
  have HX := Lib.hid hx; have HY := Lib.hid hy; have HV := Lib.hid hv; have HNE := Lib.hid hne
  have HCK := Lib.hid (fun W => mayKey_any s W hs)
  generalize Rq.keyB s.data.toList = q at *
  clear hx hy h0 h1 h2 hv hne
  go_enter Tryz.func187, Tryz.ntmps187
  go_wp2_with fail
  refine (HCK.out _).mono ?_
  rintro e w0 ⟨rfl, hb0⟩
  have HX0 := Lib.hid ((hb0.block _ (block_lt HX.out)).trans HX.out)
  have HY0 := Lib.hid ((hb0.block _ (block_lt HY.out)).trans HY.out)
  have HT0 := Lib.hid (Turn.of_below (S := fun k => k = g ∨ k = b) hb0)
  have HGB := Lib.hid (block_lt HX.out)
  clear hb0 c0 c1 d0
  go_wp2_with fail
  refine (HW.out _ _ HX0.out).mono ?_
  rintro e w1 ⟨rfl, hx1, ht1⟩
  have hy1 := (ht1.block _ (block_lt HY0.out) HNE.out).trans HY0.out
  have hf1 := fun j => frozen_of_row w1 b j _ _ hy1
  have d1 : w1.cell? ⟨b, o, none⟩ = some (.string s) := (cell_of_row w1 b o _ _ _ hy1).trans HV.out
  have HX1 := Lib.hid hx1; have HY1 := Lib.hid hy1; have HT1 := Lib.hid ht1
  clear hx1 hy1 ht1
  go_wp2
  go_end0
  refine ⟨rfl, (heap_setCell_other _ _ _ _ (Ne.symm HNE.out)).trans HX1.out, heap_setCell_same _ _ _ _ _ _ HY1.out, ?_⟩
  exact (HT0.out.trans (HT1.out.mono fun k _ hk => .inl hk)).setCell (.inr rfl) _ _

set_option maxRecDepth 4000 in
set_option maxHeartbeats 1000000 in
theorem aw_on (ds : Array Value) (g gq : Nat) (gd : Bool) (v : Int) (w : World) (hx : w.heap[g]? = some (.cells #[.pointer none, .pointer none, .bool gd, .pointer (some ⟨gq, 0, none⟩)] 125 (0, 0))) (hy : w.heap[gq]? = some (.cells ds 57 (0, 0))) (hne : gq ≠ g) (hv : ds[2]? = some (.int .i64 v)) :
    Calls Tryz.prog 132 #[.pointer (some ⟨g, 0, none⟩)] w fun e w' => e = .returned (.tuple #[]) ∧ w'.heap[g]? = some (.cells #[.pointer none, .pointer none, .bool (gd && inB 0 1000000 v), .pointer (some ⟨gq, 0, none⟩)] 125 (0, 0)) ∧ w'.heap[gq]? = some (.cells (ds.setIfInBounds 2 (.int .i64 0)) 57 (0, 0)) ∧ Turn (fun k => k = g ∨ k = gq) w w' := by
  have cx := fun j => cell_of_row w g j _ _ _ hx
  have HC := Lib.hid (pday_any 125 57 #[.pointer none, .pointer none, .bool gd, .pointer (some ⟨gq, 0, none⟩)] ds g gq 2 gd v w.drew hx hy hne rfl rfl rfl hv)
  have hbx := block_lt hx; have hby := block_lt hy
  clear hx hy hne hv
  go_enter Tryz.func132, Tryz.ntmps132
  go_wp2_with fail
  go_still_tail 9, (by kernel_rfl)
  change wpList _ _ _ _ _ (w.drew)
  go_wp2_with fail
  refine HC.out.mono ?_
  rintro e w1 ⟨rfl, h1, h2, h3⟩
  have H1 := Lib.hid h1; have H2 := Lib.hid h2; have H3 := Lib.hid h3
  clear h1 h2 h3 cx
  go_wp2
  first | go_end0 | refine bodyPost_ret (results_none rfl _ _ _) rfl ?_
  exact ⟨rfl, H1.out, H2.out, (Turn.refl _ w).drew.trans H3.out⟩

set_option maxRecDepth 4000 in
set_option maxHeartbeats 1000000 in
theorem aw_of (ds : Array Value) (g gq : Nat) (gd : Bool) (v : Int) (w : World) (hx : w.heap[g]? = some (.cells #[.pointer none, .pointer none, .bool gd, .pointer (some ⟨gq, 0, none⟩)] 125 (0, 0))) (hy : w.heap[gq]? = some (.cells ds 57 (0, 0))) (hne : gq ≠ g) (hv : ds[3]? = some (.int .u64 v)) (hw : U64 v) :
    Calls Tryz.prog 136 #[.pointer (some ⟨g, 0, none⟩)] w fun e w' => e = .returned (.tuple #[]) ∧ w'.heap[g]? = some (.cells #[.pointer none, .pointer none, .bool (gd && Tkt.numB v), .pointer (some ⟨gq, 0, none⟩)] 125 (0, 0)) ∧ w'.heap[gq]? = some (.cells (ds.setIfInBounds 3 (.int .u64 0)) 57 (0, 0)) ∧ Turn (fun k => k = g ∨ k = gq) w w' := by
  have cx := fun j => cell_of_row w g j _ _ _ hx
  have HC := Lib.hid (pticket_any 125 57 #[.pointer none, .pointer none, .bool gd, .pointer (some ⟨gq, 0, none⟩)] ds g gq 3 gd v w.drew hx hy hne rfl rfl rfl hv hw)
  have hbx := block_lt hx; have hby := block_lt hy
  clear hx hy hne hv
  go_enter Tryz.func136, Tryz.ntmps136
  go_wp2_with fail
  go_still_tail 9, (by kernel_rfl)
  change wpList _ _ _ _ _ (w.drew)
  go_wp2_with fail
  refine HC.out.mono ?_
  rintro e w1 ⟨rfl, h1, h2, h3⟩
  have H1 := Lib.hid h1; have H2 := Lib.hid h2; have H3 := Lib.hid h3
  clear h1 h2 h3 cx
  go_wp2
  first | go_end0 | refine bodyPost_ret (results_none rfl _ _ _) rfl ?_
  exact ⟨rfl, H1.out, H2.out, (Turn.refl _ w).drew.trans H3.out⟩

set_option maxRecDepth 4000 in
set_option maxHeartbeats 1000000 in
theorem aw_coupon (ds : Array Value) (g gq : Nat) (gd : Bool) (v : Int) (w : World) (hx : w.heap[g]? = some (.cells #[.pointer none, .pointer none, .bool gd, .pointer (some ⟨gq, 0, none⟩)] 125 (0, 0))) (hy : w.heap[gq]? = some (.cells ds 57 (0, 0))) (hne : gq ≠ g) (hv : ds[4]? = some (.int .i64 v)) :
    Calls Tryz.prog 137 #[.pointer (some ⟨g, 0, none⟩)] w fun e w' => e = .returned (.tuple #[]) ∧ w'.heap[g]? = some (.cells #[.pointer none, .pointer none, .bool (gd && inB 1 4 v), .pointer (some ⟨gq, 0, none⟩)] 125 (0, 0)) ∧ w'.heap[gq]? = some (.cells (ds.setIfInBounds 4 (.int .i64 0)) 57 (0, 0)) ∧ Turn (fun k => k = g ∨ k = gq) w w' := by
  have cx := fun j => cell_of_row w g j _ _ _ hx
  have HC := Lib.hid (pplace_any 125 57 #[.pointer none, .pointer none, .bool gd, .pointer (some ⟨gq, 0, none⟩)] ds g gq 4 gd v w.drew hx hy hne rfl rfl rfl hv)
  have hbx := block_lt hx; have hby := block_lt hy
  clear hx hy hne hv
  go_enter Tryz.func137, Tryz.ntmps137
  go_wp2_with fail
  go_still_tail 9, (by kernel_rfl)
  change wpList _ _ _ _ _ (w.drew)
  go_wp2_with fail
  refine HC.out.mono ?_
  rintro e w1 ⟨rfl, h1, h2, h3⟩
  have H1 := Lib.hid h1; have H2 := Lib.hid h2; have H3 := Lib.hid h3
  clear h1 h2 h3 cx
  go_wp2
  first | go_end0 | refine bodyPost_ret (results_none rfl _ _ _) rfl ?_
  exact ⟨rfl, H1.out, H2.out, (Turn.refl _ w).drew.trans H3.out⟩

set_option maxRecDepth 4000 in
set_option maxHeartbeats 1000000 in
theorem aw_status (ds : Array Value) (g gq : Nat) (gd : Bool) (v : Int) (w : World) (hx : w.heap[g]? = some (.cells #[.pointer none, .pointer none, .bool gd, .pointer (some ⟨gq, 0, none⟩)] 125 (0, 0))) (hy : w.heap[gq]? = some (.cells ds 57 (0, 0))) (hne : gq ≠ g) (hv : ds[5]? = some (.int .i64 v)) (hw : I64 v) :
    Calls Tryz.prog 138 #[.pointer (some ⟨g, 0, none⟩)] w fun e w' => e = .returned (.tuple #[]) ∧ w'.heap[g]? = some (.cells #[.pointer none, .pointer none, .bool (gd && inB 1 9 v), .pointer (some ⟨gq, 0, none⟩)] 125 (0, 0)) ∧ w'.heap[gq]? = some (.cells (ds.setIfInBounds 5 (.int .i64 0)) 57 (0, 0)) ∧ Turn (fun k => k = g ∨ k = gq) w w' := by
  have cx := fun j => cell_of_row w g j _ _ _ hx
  have HC := Lib.hid (pstate_any 125 57 #[.pointer none, .pointer none, .bool gd, .pointer (some ⟨gq, 0, none⟩)] ds g gq 5 gd v w.drew hx hy hne rfl rfl rfl hv hw)
  have hbx := block_lt hx; have hby := block_lt hy
  clear hx hy hne hv
  go_enter Tryz.func138, Tryz.ntmps138
  go_wp2_with fail
  go_still_tail 9, (by kernel_rfl)
  change wpList _ _ _ _ _ (w.drew)
  go_wp2_with fail
  refine HC.out.mono ?_
  rintro e w1 ⟨rfl, h1, h2, h3⟩
  have H1 := Lib.hid h1; have H2 := Lib.hid h2; have H3 := Lib.hid h3
  clear h1 h2 h3 cx
  go_wp2
  first | go_end0 | refine bodyPost_ret (results_none rfl _ _ _) rfl ?_
  exact ⟨rfl, H1.out, H2.out, (Turn.refl _ w).drew.trans H3.out⟩

set_option maxRecDepth 4000 in
set_option maxHeartbeats 1000000 in
theorem aw_amount (ds : Array Value) (g gq : Nat) (gd : Bool) (v : Int) (w : World) (hx : w.heap[g]? = some (.cells #[.pointer none, .pointer none, .bool gd, .pointer (some ⟨gq, 0, none⟩)] 125 (0, 0))) (hy : w.heap[gq]? = some (.cells ds 57 (0, 0))) (hne : gq ≠ g) (hv : ds[9]? = some (.int .i64 v)) (hw : I64 v) :
    Calls Tryz.prog 139 #[.pointer (some ⟨g, 0, none⟩)] w fun e w' => e = .returned (.tuple #[]) ∧ w'.heap[g]? = some (.cells #[.pointer none, .pointer none, .bool (gd && inB 0 1000000000000 v), .pointer (some ⟨gq, 0, none⟩)] 125 (0, 0)) ∧ w'.heap[gq]? = some (.cells (ds.setIfInBounds 9 (.int .i64 0)) 57 (0, 0)) ∧ Turn (fun k => k = g ∨ k = gq) w w' := by
  have cx := fun j => cell_of_row w g j _ _ _ hx
  have HC := Lib.hid (pmoney_any 125 57 #[.pointer none, .pointer none, .bool gd, .pointer (some ⟨gq, 0, none⟩)] ds g gq 9 gd v w.drew hx hy hne rfl rfl rfl hv hw)
  have hbx := block_lt hx; have hby := block_lt hy
  clear hx hy hne hv
  go_enter Tryz.func139, Tryz.ntmps139
  go_wp2_with fail
  go_still_tail 9, (by kernel_rfl)
  change wpList _ _ _ _ _ (w.drew)
  go_wp2_with fail
  refine HC.out.mono ?_
  rintro e w1 ⟨rfl, h1, h2, h3⟩
  have H1 := Lib.hid h1; have H2 := Lib.hid h2; have H3 := Lib.hid h3
  clear h1 h2 h3 cx
  go_wp2
  first | go_end0 | refine bodyPost_ret (results_none rfl _ _ _) rfl ?_
  exact ⟨rfl, H1.out, H2.out, (Turn.refl _ w).drew.trans H3.out⟩

set_option maxRecDepth 4000 in
set_option maxHeartbeats 1000000 in
theorem aw_locator (ds : Array Value) (g gq : Nat) (gd : Bool) (v : ByteArray) (w : World) (hx : w.heap[g]? = some (.cells #[.pointer none, .pointer none, .bool gd, .pointer (some ⟨gq, 0, none⟩)] 125 (0, 0))) (hy : w.heap[gq]? = some (.cells ds 57 (0, 0))) (hne : gq ≠ g) (hv : ds[6]? = some (.string v)) (hw : v.size ≤ maxLen) :
    Calls Tryz.prog 133 #[.pointer (some ⟨g, 0, none⟩)] w fun e w' => e = .returned (.tuple #[]) ∧ w'.heap[g]? = some (.cells #[.pointer none, .pointer none, .bool (gd && Num.loc v.data.toList), .pointer (some ⟨gq, 0, none⟩)] 125 (0, 0)) ∧ w'.heap[gq]? = some (.cells (ds.setIfInBounds 6 (.string ⟨#[]⟩)) 57 (0, 0)) ∧ Turn (fun k => k = g ∨ k = gq) w w' := by
  have cx := fun j => cell_of_row w g j _ _ _ hx
  have HC := Lib.hid (ptextL_any 125 57 #[.pointer none, .pointer none, .bool gd, .pointer (some ⟨gq, 0, none⟩)] ds g gq 6 gd v 6 hw w.drew hx hy hne rfl rfl rfl hv)
  have hbx := block_lt hx; have hby := block_lt hy
  clear hx hy hne hv
  go_enter Tryz.func133, Tryz.ntmps133
  go_wp2_with fail
  go_still_tail 9, (by kernel_rfl)
  change wpList _ _ _ _ _ (w.drew)
  go_wp2_with fail
  refine HC.out.mono ?_
  rintro e w1 ⟨rfl, h1, h2, h3⟩
  have H1 := Lib.hid h1; have H2 := Lib.hid h2; have H3 := Lib.hid h3
  clear h1 h2 h3 cx
  go_wp2
  first | go_end0 | refine bodyPost_ret (results_none rfl _ _ _) rfl ?_
  exact ⟨rfl, H1.out, H2.out, (Turn.refl _ w).drew.trans H3.out⟩

set_option maxRecDepth 4000 in
set_option maxHeartbeats 1000000 in
theorem aw_days (ds : Array Value) (g gq : Nat) (gd : Bool) (v u : Int) (w : World) (hx : w.heap[g]? = some (.cells #[.pointer none, .pointer none, .bool gd, .pointer (some ⟨gq, 0, none⟩)] 125 (0, 0))) (hy : w.heap[gq]? = some (.cells ds 57 (0, 0))) (hne : gq ≠ g) (hv : ds[10]? = some (.int .i64 v)) (hu : ds[11]? = some (.int .i64 u)) :
    Calls Tryz.prog 141 #[.pointer (some ⟨g, 0, none⟩)] w fun e w' => e = .returned (.tuple #[]) ∧ w'.heap[g]? = some (.cells #[.pointer none, .pointer none, .bool ((gd && inB 0 1000000 v) && inB 0 1000000 u), .pointer (some ⟨gq, 0, none⟩)] 125 (0, 0)) ∧ w'.heap[gq]? = some (.cells ((ds.setIfInBounds 10 (.int .i64 0)).setIfInBounds 11 (.int .i64 0)) 57 (0, 0)) ∧ Turn (fun k => k = g ∨ k = gq) w w' := by
  have cx := fun j => cell_of_row w g j _ _ _ hx
  have HC := Lib.hid (pday_any 125 57 #[.pointer none, .pointer none, .bool gd, .pointer (some ⟨gq, 0, none⟩)] ds g gq 10 gd v w.drew hx hy hne rfl rfl rfl hv)
  have HU : Hid ((ds.setIfInBounds 10 (.int .i64 0))[11]? = some (.int .i64 u)) := Lib.hid (by rw [Array.getElem?_setIfInBounds_ne (by decide)]; exact hu)
  have HNE := Lib.hid hne
  have hbx := block_lt hx; have hby := block_lt hy
  clear hx hy hne hv hu
  go_enter Tryz.func141, Tryz.ntmps141
  go_wp2_with fail
  go_still_tail 9, (by kernel_rfl)
  change wpList _ _ _ _ _ (w.drew)
  go_wp2_with fail
  refine HC.out.mono ?_
  rintro e w1 ⟨rfl, h1, h2, h3⟩
  have H1 := Lib.hid h1; have H2 := Lib.hid h2; have H3 := Lib.hid h3
  have hx1 : w1.heap[g]? = some (.cells #[.pointer none, .pointer none, .bool (gd && inB 0 1000000 v), .pointer (some ⟨gq, 0, none⟩)] 125 (0, 0)) := h1
  clear h1 h2 h3 cx
  have cx := fun j => cell_of_row w1 g j _ _ _ hx1
  have HD := Lib.hid (pday_any 125 57 #[.pointer none, .pointer none, .bool (gd && inB 0 1000000 v), .pointer (some ⟨gq, 0, none⟩)] _ g gq 11 _ u w1.drew hx1 H2.out HNE.out rfl rfl rfl HU.out)
  have hbx1 := block_lt hx1; have hby1 := block_lt H2.out
  clear hx1
  go_wp2_with fail
  go_still_tail 9, (by kernel_rfl)
  change wpList _ _ _ _ _ (w1.drew)
  go_wp2_with fail
  refine HD.out.mono ?_
  rintro e w2 ⟨rfl, h1, h2, h3⟩
  have H4 := Lib.hid h1; have H5 := Lib.hid h2; have H6 := Lib.hid h3
  clear h1 h2 h3 cx
  go_wp2
  first | go_end0 | refine bodyPost_ret (results_none rfl _ _ _) rfl ?_
  exact ⟨rfl, H4.out, H5.out, ((Turn.refl _ w).drew.trans H3.out).trans ((Turn.refl _ w1).drew.trans H6.out)⟩

set_option maxRecDepth 4000 in
set_option maxHeartbeats 1000000 in
theorem aw_key (ds : Array Value) (g gq : Nat) (gd : Bool) (v : ByteArray) (hw : v.size ≤ maxLen) (w : World) (hx : w.heap[g]? = some (.cells #[.pointer none, .pointer none, .bool gd, .pointer (some ⟨gq, 0, none⟩)] 125 (0, 0))) (hy : w.heap[gq]? = some (.cells ds 57 (0, 0))) (hne : gq ≠ g) (hv : ds[0]? = some (.string v)) :
    Calls Tryz.prog 131 #[.pointer (some ⟨g, 0, none⟩)] w fun e w' => e = .returned (.tuple #[]) ∧ w'.heap[g]? = some (.cells #[.pointer none, .pointer none, .bool ((gd && inB 1 16 (v.size : Int)) && Rq.keyB v.data.toList), .pointer (some ⟨gq, 0, none⟩)] 125 (0, 0)) ∧ w'.heap[gq]? = some (.cells (ds.setIfInBounds 0 (.string ⟨#[]⟩)) 57 (0, 0)) ∧ Turn (fun k => k = g ∨ k = gq) w w' := by
  have hgl := block_lt hx
  have hbl := block_lt hy
  have cx := fun j => cell_of_row w g j _ _ _ hx
  have cy0 : w.cell? ⟨gq, 0, none⟩ = some (.string v) := (cell_of_row w gq 0 _ _ _ hy).trans hv
  have HX := Lib.hid (row_allocS hx (.cells #[.int .i64 (v.size : Int)] 3)); have HY := Lib.hid (row_allocS hy (.cells #[.int .i64 (v.size : Int)] 3))
  have HM := Lib.hid (new_rowW w (.cells #[.int .i64 (v.size : Int)] 3) _ rfl)
  have HTA := Lib.hid ((Turn.refl (fun k => k = g ∨ k = gq) w).alloc (.cells #[.int .i64 (v.size : Int)] 3))
  have HG := Lib.hid hgl; have HBL := Lib.hid hbl; have HNE := Lib.hid hne; have HV := Lib.hid hv
  have hz : v.size ≤ 9223372036854775807 := hw
  have HW := Lib.hid hw
  clear hx hy hne hv hw
  go_enter Tryz.func131, Tryz.ntmps131
  go_upto_region 1 with fail
  clear cx cy0
  generalize w.alloc (.cells #[.int .i64 (v.size : Int)] 3) = w1 at *
  generalize hm : w.heap.size = m at *
  have cx := fun j => cell_of_row w1 g j _ _ _ HX.out
  have HWM := Lib.hid hm
  clear hm
  go_wp2_with fail
  refine (pnumber_any 125 3 #[.pointer none, .pointer none, .bool gd, .pointer (some ⟨gq, 0, none⟩)] #[.int .i64 (v.size : Int)] g m 0 gd (v.size : Int) 1 1 16 w1 HX.out HM.out (by have := HG.out; omega) rfl rfl rfl rfl).mono ?_
  rintro e w2 ⟨rfl, h1, h2, h3⟩
  have hy2 := (h3.block gq (block_lt HY.out) (by have := HBL.out; have := HNE.out; rintro (h | h) <;> omega)).trans HY.out
  have HX2 : Hid (w2.heap[g]? = some (.cells #[.pointer none, .pointer none, .bool (gd && inB 1 16 (v.size : Int)), .pointer (some ⟨gq, 0, none⟩)] 125 (0, 0))) := Lib.hid h1
  have HM2 : Hid (w2.heap[m]? = some (.cells #[.int .i64 0] 3 (0, 0))) := Lib.hid h2
  have HY2 := Lib.hid hy2; have HT2 := Lib.hid h3
  clear h1 h2 h3 hy2 cx
  have cx := fun j => cell_of_row w2 g j _ _ _ HX2.out
  have cm := cell_of_row w2 m 0 _ _ _ HM2.out
  have HC := Lib.hid (ptextK_any 125 57 #[.pointer none, .pointer none, .bool (gd && inB 1 16 (v.size : Int)), .pointer (some ⟨gq, 0, none⟩)] ds g gq 0 _ v 0 HW.out w2.drew HX2.out HY2.out HNE.out rfl rfl rfl HV.out)
  have hbx1 := block_lt HX2.out; have hby1 := block_lt HY2.out
  go_wp2_with fail
  go_still_tail 10, (by kernel_rfl)
  change wpList _ _ _ _ _ (w2.drew)
  go_wp2_with fail
  refine HC.out.mono ?_
  rintro e w3 ⟨rfl, h1, h2, h3⟩
  have H4 := Lib.hid h1; have H5 := Lib.hid h2; have H6 := Lib.hid h3
  clear h1 h2 h3 cx cm
  go_wp2
  first | go_end0 | refine bodyPost_ret (results_none rfl _ _ _) rfl ?_
  refine ⟨rfl, ?_, H5.out, ?_⟩
  · have := H4.out
    exact this
  · refine (HTA.out.after HT2.out (fun i hi h => ?_)).trans ((Turn.refl _ w2).drew.trans H6.out)
    rcases h with h | h
    · exact .inl h
    · have := HWM.out; omega
end Go.Proofs.YtbmphlpmipkpcaaGreat
