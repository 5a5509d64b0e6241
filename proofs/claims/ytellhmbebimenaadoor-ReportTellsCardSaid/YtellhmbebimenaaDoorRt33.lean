/- Contracts: the rows of a kind and what they come to (report.pick at By's closure, report.By). Contract: what the rows of a kind come to, by the reference (couponref17.By). -/
import Derived.Test.YtellhmbebimenaaDoorRt26
import Derived.Test.YtellhmbebimenaaDoorRt30
import Derived.Test.YtellhmbebimenaaDoorRt31
import Derived.Test.YtellhmbebimenaaDoorRt32

section
set_option linter.unusedVariables false
set_option linter.unusedSimpArgs false
namespace Go.Proofs.YtellhmbebimenaaDoor
open Go.RowKit

set_option maxHeartbeats 1000000 in
theorem by1_any (x : Pst) (a : Int) (ga : Nat) (w : World) (ha : w.cell? ⟨ga, 0, none⟩ = some (.int .i64 a)) :
    Calls Tryd.prog 85 #[.agg #[.int .i64 x.d, .int .u64 x.t, .int .i64 x.s, .int .i64 x.k, .int .i64 x.a0, .int .i64 x.a1, .int .i64 x.a2, .int .i64 x.a3, .int .i64 x.a4, .int .i64 x.a5], .pointer (some ⟨ga, 0, none⟩)] w fun e w' => e = .returned (.bool (Rep.ofK a x)) ∧ Below w.heap.size w w' := by
  have hga := cell_blockW ha
  simp only at hga
  have hb := (Below.refl w.heap.size w).alloc (Nat.le_refl _) (.cells #[.int .i64 x.d, .int .u64 x.t, .int .i64 x.s, .int .i64 x.k, .int .i64 x.a0, .int .i64 x.a1, .int .i64 x.a2, .int .i64 x.a3, .int .i64 x.a4, .int .i64 x.a5] 49)
  have h2 := (hb.cell (p := ⟨ga, 0, none⟩) hga).trans ha
  have HB := Lib.hid hb
  clear hb ha hga
  go_enter Tryd.func85, Tryd.ntmps85
  go_wp2
  go_ret
  exact ⟨rfl, HB.out⟩
set_option maxRecDepth 4000 in
set_option maxHeartbeats 1000000 in
theorem pickBy_any (l : List Pst) (a : Int) (ga : Nat) (p : Option Addr) (n cap : Nat) (hnb : n ≤ 1000000) (w : World) (hs : PS w (.slice p n cap) l) (ha : w.cell? ⟨ga, 0, none⟩ = some (.int .i64 a)) :
    Calls Tryd.prog 84 #[.slice p n cap, .func (.func 85) #[] #[.pointer (some ⟨ga, 0, none⟩)]] w
      fun e w' => ∃ v', e = .returned v' ∧ w'.ownsRow w.heap.size 49 10 v' (l.filter (Rep.ofK a)).length (encL Pst.cells (l.filter (Rep.ofK a))) ∧ Below w.heap.size w w' := by
  have HPS := Lib.hid hs; have HN := Lib.hid (ps_len hs).1
  have hn1 := (ps_len hs).2.1
  have hn2 := (ps_len hs).2.2
  have HA := Lib.hid ha
  have hga := cell_blockW ha
  simp only at hga
  clear hs ha
  generalize hq : Rep.ofK a = q at *
  go_enter Tryd.func84, Tryd.ntmps84
  go_wp2
  go_loopw [10, 5] (fun i v wr => ∃ k : Nat, k ≤ n ∧ i = .int .i64 k ∧ wr.ownsRow w.heap.size 49 10 v ((l.take k).filter q).length (encL Pst.cells ((l.take k).filter q)) ∧ Below w.heap.size w wr) (fun i _ _ => n - (intOf i).toNat)
  case atStart => exact ⟨0, Nat.zero_le _, rfl, World.ownsRow_nil _ _ _ _, Below.refl _ _⟩
  case round =>
    obtain ⟨k, hk, rfl, hown, hbw⟩ := hrel
    have HO := Lib.hid hown; have HBW := Lib.hid hbw
    have HLE : Hid (((l.take k).filter q).length ≤ n) := Lib.hid (Nat.le_trans (List.length_filter_le _ _) (by rw [List.length_take]; omega))
    clear hown
    by_cases hlt : k < n
    · obtain ⟨x, hx⟩ : ∃ x, l[k]? = some x := ⟨_, List.getElem?_eq_getElem (by have := HN.out; omega)⟩
      obtain ⟨bb, o, rfl, hbl, hat⟩ := ps_at (HPS.out.below hbw) hx
      have HT : Hid ((l.take (k + 1)).filter q = (l.take k).filter q ++ (if q x then [x] else [])) := Lib.hid (by
        rw [List.take_add_one, hx, List.filter_append]
        simp [List.filter_cons])
      have HW : Hid (∀ W, W.cell? ⟨ga, 0, none⟩ = some (.int .i64 a) → Calls Tryd.prog 85 #[.agg #[.int .i64 x.d, .int .u64 x.t, .int .i64 x.s, .int .i64 x.k, .int .i64 x.a0, .int .i64 x.a1, .int .i64 x.a2, .int .i64 x.a3, .int .i64 x.a4, .int .i64 x.a5], .pointer (some ⟨ga, 0, none⟩)] W fun e w' => e = .returned (.bool (q x)) ∧ Below W.heap.size W w') := Lib.hid (fun W h1 => by rw [← hq]; exact by1_any x a ga W h1)
      unfold PAt at hat
      obtain ⟨c0, c1, c2, c3, c4, c5, c6, c7, c8, c9⟩ := hat
      have hb0 := (Below.refl wr.heap.size wr).alloc (Nat.le_refl _) (.cells #[.int .i64 x.d, .int .u64 x.t, .int .i64 x.s, .int .i64 x.k, .int .i64 x.a0, .int .i64 x.a1, .int .i64 x.a2, .int .i64 x.a3, .int .i64 x.a4, .int .i64 x.a5] 49 (0, 0))
      clear hx hbw
      go_wp2_with fail
      refine (HW.out _ ((((HBW.out.alloc HBW.out.size (.cells #[.int .i64 x.d, .int .u64 x.t, .int .i64 x.s, .int .i64 x.k, .int .i64 x.a0, .int .i64 x.a1, .int .i64 x.a2, .int .i64 x.a3, .int .i64 x.a4, .int .i64 x.a5] 49 (0, 0)))).cell (p := ⟨ga, 0, none⟩) hga).trans HA.out)).mono ?_
      rintro e w1 ⟨rfl, hb1⟩
      have hrow := (hb1.block wr.heap.size (by simp)).trans (new_row wr (.cells #[.int .i64 x.d, .int .u64 x.t, .int .i64 x.s, .int .i64 x.k, .int .i64 x.a0, .int .i64 x.a1, .int .i64 x.a2, .int .i64 x.a3, .int .i64 x.a4, .int .i64 x.a5] 49 (0, 0)) _ rfl)
      have HB1 := Lib.hid (hb0.trans (hb1.mono (by simp)))
      have HBW1 := Lib.hid (HBW.out.trans (HB1.out.mono HBW.out.size))
      have HO1 := Lib.hid (recs_below HO.out HB1.out)
      clear hb1 hb0 c0 c1 c2 c3 c4 c5 c6 c7 c8 c9
      generalize wr.heap.size = gp at *
      have hcp := fun j => cell_of_row w1 gp j _ _ _ hrow
      obtain ⟨y, hy⟩ : ∃ y, q x = y := ⟨_, rfl⟩
      rw [hy] at HT ⊢
      cases y
      · have HT2 : Hid ((l.take (k + 1)).filter q = (l.take k).filter q) := Lib.hid (by rw [HT.out]; simp)
        clear hy hrow
        go_wp2
        go_roundw
        case rel => exact ⟨k + 1, by omega, by go_num, by rw [HT2.out]; exact HO1.out, HBW1.out⟩
        case measure => simp [intOf]; omega
      · have HT2 : Hid ((l.take (k + 1)).filter q = (l.take k).filter q ++ [x]) := Lib.hid (by rw [HT.out]; simp)
        clear hy hrow
        go_wp2_with (at_builtin; refine wpList_append_recs elemP rfl _ _ rfl w.heap.size _ _ _ rfl (recs_below HO1.out ((Below.refl _ _).alloc (Nat.le_refl _) _)) _ [x] rfl (row_one (x := x) (new_rowW _ _ _ rfl) rfl Pst.cells_length (by decide)) (by have := HLE.out; simp <;> omega) (by have := HBW1.out.size; simp <;> omega) ?_; intro v2 w2 hown2 hg2 hn2 hat2)
        have HO2 : Hid (w2.ownsRow w.heap.size 49 10 v2 ((l.take (k + 1)).filter q).length (encL Pst.cells ((l.take (k + 1)).filter q))) := Lib.hid (by
          rw [HT2.out, List.length_append]
          exact hown2)
        have HB2 := Lib.hid ((HBW1.out.alloc HBW1.out.size _).grown hg2 (by have := HBW1.out.size; simp <;> omega) (fun b hb => (recs_base HO1.out hb).1))
        clear hown2 hg2 hn2 hat2
        go_wp2
        go_roundw
        case rel => exact ⟨k + 1, by omega, by go_num, HO2.out, HB2.out⟩
        case measure => simp [intOf]; omega
    · obtain rfl : k = n := by omega
      have hown := HO.out
      rw [List.take_of_length_le (by have := HN.out; omega)] at hown
      have HO1 := Lib.hid hown
      clear hown hbw
      go_wp2
      go_ret
      exact ⟨_, rfl, HO1.out, HBW.out⟩
theorem tt_execLoad (ρ : Operand → Value) (dst : Option Tmp) (x : Operand) (ty : TypeId) (pos : String) (after : Array Edge) (guard : Option (Nat × Bool)) :
    execOp ρ { dst, op := .load 59 x, type := ty, pos, after, guard } = recLoad 59 (ρ x) := rfl
theorem tt_load (w : World) (b o : Nat) (h : okL 7 w b o) : (recLoad 59 (.pointer (some ⟨b, o, none⟩))).run Tryd.prog w = .ok (.value (.agg (loL 7 w b o).toArray)) w := by
  unfold recLoad
  rw [Sem.run_bind, run_load_rec 7 Tryd.underlying59 rfl (by kernel_rfl) w b o h]
  rfl
theorem tt_execStore (ρ : Operand → Value) (dst : Option Tmp) (x y : Operand) (ty : TypeId) (pos : String) (after : Array Edge) (guard : Option (Nat × Bool)) :
    execOp ρ { dst, op := .store 59 x y, type := ty, pos, after, guard } = recStore 59 (ρ x) (ρ y) := rfl
theorem tt_store (w : World) (b o : Nat) (cs : List Value) (ht : w.there b o 7) (hn : cs.length = 7) (h1 : cs.all (·.oneCell') = true) :
    (recStore 59 (.pointer (some ⟨b, o, none⟩)) (.agg cs.toArray)).run Tryd.prog w = .ok .skip (w.setCells b o cs) := by
  unfold recStore
  rw [Sem.run_bind, run_store_rec 7 (by kernel_rfl) w b o cs ht hn h1]
  rfl
theorem loadTt {w : World} {g : Nat} {cs : Array Value} {e : TypeId} (h : w.heap[g]? = some (.cells cs e (0, 0))) (hs : cs.size = 7) : (loadVar 59 ⟨g, 0, none⟩).run Tryd.prog w = .ok (.agg cs) w := by
  refine run_loadVar_row w g e 59 cs (0, 0) _ h Tryd.underlying59 rfl ?_
  rw [hs]; kernel_rfl
attribute [local go_sem ↓] tt_execLoad tt_execStore

attribute [local go_sem] tt_load tt_store loL_drew okL_drew

set_option maxRecDepth 8000 in
set_option maxHeartbeats 4000000 in
theorem pBy_any (a b : Int) (l : List Pst) (p : Option Addr) (n cap : Nat) (hnb : n ≤ 1000000) (m x0 x1 x2 x3 x4 x5 : Int) (bv : Bool) (hbv : bv = true ↔ Rep.MayP a b l m [x0, x1, x2, x3, x4, x5]) (k ev M y0 y1 y2 y3 y4 y5 : Int) (hsum : Post.sums (l.filter (Rep.ofK k)) = ⟨ev, M, [y0, y1, y2, y3, y4, y5]⟩) (w : World) (hs : PS w (.slice p n cap) l) :
    Calls Tryd.prog 34 #[.agg #[.int .i64 a, .int .i64 b, (.slice p n cap), .int .i64 m, .int .i64 x0, .int .i64 x1, .int .i64 x2, .int .i64 x3, .int .i64 x4, .int .i64 x5], .int .i64 k] w fun e w' => e = .returned (.agg (if bv = true then #[.int .i64 M, .int .i64 y0, .int .i64 y1, .int .i64 y2, .int .i64 y3, .int .i64 y4, .int .i64 y5] else #[.int .i64 0, .int .i64 0, .int .i64 0, .int .i64 0, .int .i64 0, .int .i64 0, .int .i64 0])) ∧ Below w.heap.size w w' := by
  have HMY := Lib.hid (fun W h => pMay_any a b l p n cap m x0 x1 x2 x3 x4 x5 bv hbv W h)
  have HPK := Lib.hid (fun ga W h hc => pickBy_any l k ga p n cap hnb W h hc)
  have HSU := Lib.hid (fun W p' n' cap' hn h => sum_any (l.filter (Rep.ofK k)) p' n' cap' hn W h ev M y0 y1 y2 y3 y4 y5 hsum)
  obtain ⟨R, hR⟩ : ∃ R : Array Value, (if bv = true then #[.int .i64 M, .int .i64 y0, .int .i64 y1, .int .i64 y2, .int .i64 y3, .int .i64 y4, .int .i64 y5] else #[.int .i64 0, .int .i64 0, .int .i64 0, .int .i64 0, .int .i64 0, .int .i64 0, .int .i64 0]) = R := ⟨_, rfl⟩
  rw [hR]
  have HR := Lib.hid hR
  have HS := Lib.hid hs
  have HWF : Hid (WF (l.filter (Rep.ofK k))) := Lib.hid (fun x hx => ps_wf hs x (List.mem_filter.1 hx).1)
  clear hR hbv hs hsum
  have hb1 := (Below.refl w.heap.size w).alloc (Nat.le_refl _) (.cells #[.int .i64 a, .int .i64 b, (.slice p n cap), .int .i64 m, .int .i64 x0, .int .i64 x1, .int .i64 x2, .int .i64 x3, .int .i64 x4, .int .i64 x5] 61)
  have hr1 := new_rowW w (.cells #[.int .i64 a, .int .i64 b, (.slice p n cap), .int .i64 m, .int .i64 x0, .int .i64 x1, .int .i64 x2, .int .i64 x3, .int .i64 x4, .int .i64 x5] 61) _ rfl
  have e1 : (w.alloc (.cells #[.int .i64 a, .int .i64 b, (.slice p n cap), .int .i64 m, .int .i64 x0, .int .i64 x1, .int .i64 x2, .int .i64 x3, .int .i64 x4, .int .i64 x5] 61)).heap.size = w.heap.size + 1 := by simp
  have hb2 := (Below.refl (w.alloc (.cells #[.int .i64 a, .int .i64 b, (.slice p n cap), .int .i64 m, .int .i64 x0, .int .i64 x1, .int .i64 x2, .int .i64 x3, .int .i64 x4, .int .i64 x5] 61)).heap.size (w.alloc (.cells #[.int .i64 a, .int .i64 b, (.slice p n cap), .int .i64 m, .int .i64 x0, .int .i64 x1, .int .i64 x2, .int .i64 x3, .int .i64 x4, .int .i64 x5] 61))).alloc (Nat.le_refl _) (.cells #[.int .i64 k] 47)
  have hr2 := new_rowW (w.alloc (.cells #[.int .i64 a, .int .i64 b, (.slice p n cap), .int .i64 m, .int .i64 x0, .int .i64 x1, .int .i64 x2, .int .i64 x3, .int .i64 x4, .int .i64 x5] 61)) (.cells #[.int .i64 k] 47) _ rfl
  have e2 : ((w.alloc (.cells #[.int .i64 a, .int .i64 b, (.slice p n cap), .int .i64 m, .int .i64 x0, .int .i64 x1, .int .i64 x2, .int .i64 x3, .int .i64 x4, .int .i64 x5] 61)).alloc (.cells #[.int .i64 k] 47)).heap.size = w.heap.size + 2 := by simp
  have hb3 := (Below.refl ((w.alloc (.cells #[.int .i64 a, .int .i64 b, (.slice p n cap), .int .i64 m, .int .i64 x0, .int .i64 x1, .int .i64 x2, .int .i64 x3, .int .i64 x4, .int .i64 x5] 61)).alloc (.cells #[.int .i64 k] 47)).heap.size ((w.alloc (.cells #[.int .i64 a, .int .i64 b, (.slice p n cap), .int .i64 m, .int .i64 x0, .int .i64 x1, .int .i64 x2, .int .i64 x3, .int .i64 x4, .int .i64 x5] 61)).alloc (.cells #[.int .i64 k] 47))).alloc (Nat.le_refl _) (.cells #[.int .i64 0, .int .i64 0, .int .i64 0, .int .i64 0, .int .i64 0, .int .i64 0, .int .i64 0] 59)
  have hr3 := new_rowW ((w.alloc (.cells #[.int .i64 a, .int .i64 b, (.slice p n cap), .int .i64 m, .int .i64 x0, .int .i64 x1, .int .i64 x2, .int .i64 x3, .int .i64 x4, .int .i64 x5] 61)).alloc (.cells #[.int .i64 k] 47)) (.cells #[.int .i64 0, .int .i64 0, .int .i64 0, .int .i64 0, .int .i64 0, .int .i64 0, .int .i64 0] 59) _ rfl
  have HR1 := Lib.hid ((hb3.block _ (by rw [e2]; omega)).trans ((hb2.block _ (block_lt hr1)).trans hr1))
  rw [e1] at hr2
  have HR2 := Lib.hid ((hb3.block _ (by rw [e2]; omega)).trans hr2)
  rw [e2] at hr3
  have HR3 := Lib.hid hr3
  have HB := Lib.hid ((hb1.trans (hb2.mono hb1.size)).trans (hb3.mono (Nat.le_trans hb1.size hb2.size)))
  clear hb1 hb2 hb3 hr1 hr2 hr3 e1 e2
  go_enter Tryd.func34, Tryd.ntmps34
  go_upto_region 1 with fail
  generalize ((w.alloc (.cells #[.int .i64 a, .int .i64 b, (.slice p n cap), .int .i64 m, .int .i64 x0, .int .i64 x1, .int .i64 x2, .int .i64 x3, .int .i64 x4, .int .i64 x5] 61)).alloc (.cells #[.int .i64 k] 47)).alloc (.cells #[.int .i64 0, .int .i64 0, .int .i64 0, .int .i64 0, .int .i64 0, .int .i64 0, .int .i64 0] 59) = w0 at *
  have hc1 := fun j => cell_of_row w0 w.heap.size j _ _ _ HR1.out
  go_wp2_with fail
  refine (HMY.out _ (HS.out.below HB.out)).mono ?_
  rintro e w1 ⟨rfl, hb⟩
  replace HB := Lib.hid (HB.out.trans (hb.mono HB.out.size))
  replace HR1 := Lib.hid ((hb.block _ (block_lt HR1.out)).trans HR1.out)
  replace HR2 := Lib.hid ((hb.block _ (block_lt HR2.out)).trans HR2.out)
  replace HR3 := Lib.hid ((hb.block _ (block_lt HR3.out)).trans HR3.out)
  clear hb hc1
  cases bv
  · obtain rfl : #[.int .i64 0, .int .i64 0, .int .i64 0, .int .i64 0, .int .i64 0, .int .i64 0, .int .i64 0] = R := HR.out
    have th := there_rowT (n := 7) HR3.out rfl
    have h1n : ([.int .i64 0, .int .i64 0, .int .i64 0, .int .i64 0, .int .i64 0, .int .i64 0, .int .i64 0] : List Value).length = 7 := rfl
    have h1c : ([.int .i64 0, .int .i64 0, .int .i64 0, .int .i64 0, .int .i64 0, .int .i64 0, .int .i64 0] : List Value).all (·.oneCell') = true := rfl
    go_wp2_with fail
    have hr6 := setCells_rowT (g := w.heap.size + 2) (cs := [.int .i64 0, .int .i64 0, .int .i64 0, .int .i64 0, .int .i64 0, .int .i64 0, .int .i64 0]) HR3.out rfl
    (try simp only [Exit.inBlock, Exit.then])
    refine bodyPost_ret (results_cellT rfl _ _ (w.heap.size + 2) rfl (loadTt hr6 rfl)) rfl ?_
    exact ⟨rfl, Only.below HB.out (by omega) HB.out.size ((Only.refl (w.heap.size + 2) _).setCells 0 _)⟩
  · obtain rfl : #[.int .i64 M, .int .i64 y0, .int .i64 y1, .int .i64 y2, .int .i64 y3, .int .i64 y4, .int .i64 y5] = R := HR.out
    have hc1 := fun j => cell_of_row w1 w.heap.size j _ _ _ HR1.out
    go_wp2_with fail
    clear hc1
    refine (HPK.out _ _ (HS.out.below HB.out) ((cell_of_row w1 (w.heap.size + 1) 0 _ _ _ HR2.out).trans rfl)).mono ?_
    rintro e w2 ⟨v2, rfl, ho, hb⟩
    have hps := ps_of_ls (LS.of_own ho Pst.cells_length (by decide)) HWF.out
    replace HB := Lib.hid (HB.out.trans (hb.mono HB.out.size))
    replace HR3 := Lib.hid ((hb.block _ (block_lt HR3.out)).trans HR3.out)
    clear hb
    obtain ⟨q2, c2, rfl⟩ := rec_formT ho
    have HP2 := Lib.hid hps
    clear ho hps HR1 HR2
    go_wp2_with fail
    refine (HSU.out _ _ _ _ rfl HP2.out).mono ?_
    rintro e w3 ⟨rfl, hb⟩
    replace HB := Lib.hid (HB.out.trans (hb.mono HB.out.size))
    replace HR3 := Lib.hid ((hb.block _ (block_lt HR3.out)).trans HR3.out)
    clear hb
    have th8 := there_newT (w := w3) (zs := [.int .i64 0, .int .i64 0, .int .i64 0, .int .i64 0, .int .i64 0, .int .i64 0, .int .i64 0]) (e := 59) (n := 7) rfl
    have h8n : ([.int .i64 M, .int .i64 y0, .int .i64 y1, .int .i64 y2, .int .i64 y3, .int .i64 y4, .int .i64 y5] : List Value).length = 7 := rfl
    have h8c : ([.int .i64 M, .int .i64 y0, .int .i64 y1, .int .i64 y2, .int .i64 y3, .int .i64 y4, .int .i64 y5] : List Value).all (·.oneCell') = true := rfl
    go_upto_region 4 with fail
    have HP := Lib.hid (putRec (W := w3) (e := 59) (zs := [.int .i64 0, .int .i64 0, .int .i64 0, .int .i64 0, .int .i64 0, .int .i64 0, .int .i64 0]) (cs := [.int .i64 M, .int .i64 y0, .int .i64 y1, .int .i64 y2, .int .i64 y3, .int .i64 y4, .int .i64 y5]) rfl)
    replace HB := Lib.hid (HB.out.trans (HP.out.2.mono HB.out.size))
    replace HR3 := Lib.hid ((HP.out.2.block _ (block_lt HR3.out)).trans HR3.out)
    have HR5 := Lib.hid HP.out.1
    clear HP th8 h8n h8c
    generalize (w3.alloc (.cells ([.int .i64 0, .int .i64 0, .int .i64 0, .int .i64 0, .int .i64 0, .int .i64 0, .int .i64 0] : List Value).toArray 59 (0, 0))).setCells w3.heap.size 0 [.int .i64 M, .int .i64 y0, .int .i64 y1, .int .i64 y2, .int .i64 y3, .int .i64 y4, .int .i64 y5] = w4 at *
    generalize w3.heap.size = g5 at *
    have th := there_rowT (n := 7) HR3.out rfl
    have h1n : ([.int .i64 M, .int .i64 y0, .int .i64 y1, .int .i64 y2, .int .i64 y3, .int .i64 y4, .int .i64 y5] : List Value).length = 7 := rfl
    have h1c : ([.int .i64 M, .int .i64 y0, .int .i64 y1, .int .i64 y2, .int .i64 y3, .int .i64 y4, .int .i64 y5] : List Value).all (·.oneCell') = true := rfl
    obtain ⟨f1, f2⟩ := row_loT 7 HR5.out rfl rfl
    go_wp2_with fail
    have hr6 := setCells_rowT (g := w.heap.size + 2) (cs := [.int .i64 M, .int .i64 y0, .int .i64 y1, .int .i64 y2, .int .i64 y3, .int .i64 y4, .int .i64 y5]) HR3.out rfl
    (try simp only [Exit.inBlock, Exit.then])
    refine bodyPost_ret (results_cellT rfl _ _ (w.heap.size + 2) rfl (loadTt hr6 rfl)) rfl ?_
    exact ⟨rfl, Only.below HB.out (by omega) HB.out.size ((Only.refl (w.heap.size + 2) _).setCells 0 _)⟩
end Go.Proofs.YtellhmbebimenaaDoor
end

section
set_option linter.unusedVariables false
set_option linter.unusedSimpArgs false
namespace Go.Proofs.YtellhmbebimenaaDoor
open Go.RowKit

attribute [local go_sem ↓] tt_execLoad tt_execStore

attribute [local go_sem] tt_load tt_store loL_drew okL_drew

set_option maxRecDepth 8000 in
set_option maxHeartbeats 4000000 in
theorem rBy17_any (a b : Int) (l : List Pst) (p : Option Addr) (n cap : Nat) (hnb : n ≤ 1000000) (m x0 x1 x2 x3 x4 x5 : Int) (kd ev M y0 y1 y2 y3 y4 y5 : Int) (hsum : Post.sums (l.filter (Rep.ofK kd)) = ⟨ev, M, [y0, y1, y2, y3, y4, y5]⟩) (w : World) (hs : PS w (.slice p n cap) l) :
    Calls Tryd.prog 36 #[.agg #[.int .i64 a, .int .i64 b, (.slice p n cap), .int .i64 m, .int .i64 x0, .int .i64 x1, .int .i64 x2, .int .i64 x3, .int .i64 x4, .int .i64 x5], .int .i64 kd] w fun e w' => e = .returned (.agg #[.int .i64 M, .int .i64 y0, .int .i64 y1, .int .i64 y2, .int .i64 y3, .int .i64 y4, .int .i64 y5]) ∧ Below w.heap.size w w' := by
  have HSU := Lib.hid (fun W p' n' cap' hn h => rSum_any (l.filter (Rep.ofK kd)) p' n' cap' hn W h ev M y0 y1 y2 y3 y4 y5 hsum)
  have HWF : Hid (WF (l.filter (Rep.ofK kd))) := Lib.hid (fun x hx => ps_wf hs x (List.mem_filter.1 hx).1)
  have HPS := Lib.hid hs; have HN := Lib.hid (ps_len hs).1
  have hn1 := (ps_len hs).2.1
  have hn2 := (ps_len hs).2.2
  clear hsum hs
  have hb1 := (Below.refl w.heap.size w).alloc (Nat.le_refl _) (.cells #[.int .i64 a, .int .i64 b, (.slice p n cap), .int .i64 m, .int .i64 x0, .int .i64 x1, .int .i64 x2, .int .i64 x3, .int .i64 x4, .int .i64 x5] 61)
  have hr1 := new_rowW w (.cells #[.int .i64 a, .int .i64 b, (.slice p n cap), .int .i64 m, .int .i64 x0, .int .i64 x1, .int .i64 x2, .int .i64 x3, .int .i64 x4, .int .i64 x5] 61) _ rfl
  have e1 : (w.alloc (.cells #[.int .i64 a, .int .i64 b, (.slice p n cap), .int .i64 m, .int .i64 x0, .int .i64 x1, .int .i64 x2, .int .i64 x3, .int .i64 x4, .int .i64 x5] 61)).heap.size = w.heap.size + 1 := by simp
  have hb2 := (Below.refl (w.alloc (.cells #[.int .i64 a, .int .i64 b, (.slice p n cap), .int .i64 m, .int .i64 x0, .int .i64 x1, .int .i64 x2, .int .i64 x3, .int .i64 x4, .int .i64 x5] 61)).heap.size (w.alloc (.cells #[.int .i64 a, .int .i64 b, (.slice p n cap), .int .i64 m, .int .i64 x0, .int .i64 x1, .int .i64 x2, .int .i64 x3, .int .i64 x4, .int .i64 x5] 61))).alloc (Nat.le_refl _) (.cells #[.int .i64 0, .int .i64 0, .int .i64 0, .int .i64 0, .int .i64 0, .int .i64 0, .int .i64 0] 59)
  have hr2 := new_rowW (w.alloc (.cells #[.int .i64 a, .int .i64 b, (.slice p n cap), .int .i64 m, .int .i64 x0, .int .i64 x1, .int .i64 x2, .int .i64 x3, .int .i64 x4, .int .i64 x5] 61)) (.cells #[.int .i64 0, .int .i64 0, .int .i64 0, .int .i64 0, .int .i64 0, .int .i64 0, .int .i64 0] 59) _ rfl
  have HR1 := Lib.hid ((hb2.block _ (block_lt hr1)).trans hr1)
  rw [e1] at hr2
  have HR2 := Lib.hid hr2
  have HB := Lib.hid (hb1.trans (hb2.mono hb1.size))
  clear hb1 hb2 hr1 hr2 e1
  obtain ⟨q, hq⟩ : ∃ q, Rep.ofK kd = q := ⟨_, rfl⟩
  have HQ : Hid (∀ x : Pst, (x.k == kd) = q x) := Lib.hid (fun x => by rw [← hq]; rfl)
  rw [hq] at HSU HWF
  clear hq
  go_enter Tryd.func36, Tryd.ntmps36
  go_upto_region 1 with fail
  generalize (w.alloc (.cells #[.int .i64 a, .int .i64 b, (.slice p n cap), .int .i64 m, .int .i64 x0, .int .i64 x1, .int .i64 x2, .int .i64 x3, .int .i64 x4, .int .i64 x5] 61)).alloc (.cells #[.int .i64 0, .int .i64 0, .int .i64 0, .int .i64 0, .int .i64 0, .int .i64 0, .int .i64 0] 59) = w0 at *
  go_wp2_with fail
  go_loopw [5, 6] (fun v i wr => ∃ k : Nat, k ≤ n ∧ i = .int .i64 k ∧ wr.ownsRow w.heap.size 49 10 v ((l.take k).filter q).length (encL Pst.cells ((l.take k).filter q)) ∧ Below w.heap.size w wr ∧ wr.heap[w.heap.size]? = some (.cells #[.int .i64 a, .int .i64 b, (.slice p n cap), .int .i64 m, .int .i64 x0, .int .i64 x1, .int .i64 x2, .int .i64 x3, .int .i64 x4, .int .i64 x5] 61 (0, 0)) ∧ wr.heap[w.heap.size + 1]? = some (.cells #[.int .i64 0, .int .i64 0, .int .i64 0, .int .i64 0, .int .i64 0, .int .i64 0, .int .i64 0] 59 (0, 0))) (fun _ i _ => n - (intOf i).toNat)
  case atStart => exact ⟨0, Nat.zero_le _, rfl, World.ownsRow_nil _ _ _ _, HB.out, HR1.out, HR2.out⟩
  case round =>
    obtain ⟨k, hk, rfl, hown, hbw, hra, hrb⟩ := hrel
    have HO := Lib.hid hown; have HBW := Lib.hid hbw; have HRA := Lib.hid hra; have HRB := Lib.hid hrb
    have HLE : Hid (((l.take k).filter q).length ≤ n) := Lib.hid (Nat.le_trans (List.length_filter_le _ _) (by rw [List.length_take]; omega))
    clear hown hra hrb HR1 HR2 HB
    have hcp := fun j => cell_of_row wr w.heap.size j _ _ _ HRA.out
    by_cases hlt : k < n
    · obtain ⟨x, hx⟩ : ∃ x, l[k]? = some x := ⟨_, List.getElem?_eq_getElem (by have := HN.out; omega)⟩
      obtain ⟨bb, o, rfl, hbl, hat⟩ := ps_at (HPS.out.below hbw) hx
      have HT : Hid ((l.take (k + 1)).filter q = (l.take k).filter q ++ (if q x then [x] else [])) := Lib.hid (by
        rw [List.take_add_one, hx, List.filter_append]
        simp [List.filter_cons])
      unfold PAt at hat
      obtain ⟨c0, c1, c2, c3, c4, c5, c6, c7, c8, c9⟩ := hat
      obtain ⟨y, hy⟩ : ∃ y, q x = y := ⟨_, rfl⟩
      have hqx : (x.k == kd) = y := (HQ.out x).trans hy
      rw [hy] at HT
      clear hx hbw hy
      cases y
      · have HT2 : Hid ((l.take (k + 1)).filter q = (l.take k).filter q) := Lib.hid (by rw [HT.out]; simp)
        go_wp2
        go_roundw
        case rel => exact ⟨k + 1, by omega, by go_num, by rw [HT2.out]; exact HO.out, HBW.out, HRA.out, HRB.out⟩
        case measure => simp [intOf]; omega
      · have HT2 : Hid ((l.take (k + 1)).filter q = (l.take k).filter q ++ [x]) := Lib.hid (by rw [HT.out]; simp)
        go_wp2_with (at_builtin; refine wpList_append_recs elemP rfl _ _ rfl w.heap.size _ _ _ rfl (recs_below HO.out ((Below.refl _ _).alloc (Nat.le_refl _) _)) _ [x] rfl (row_one (x := x) (new_rowW _ _ _ rfl) rfl Pst.cells_length (by decide)) (by have := HLE.out; simp <;> omega) (by have := HBW.out.size; simp <;> omega) ?_; intro v2 w2 hown2 hg2 hn2 hat2)
        have HO2 : Hid (w2.ownsRow w.heap.size 49 10 v2 ((l.take (k + 1)).filter q).length (encL Pst.cells ((l.take (k + 1)).filter q))) := Lib.hid (by
          rw [HT2.out, List.length_append]
          exact hown2)
        have HB2 := Lib.hid ((HBW.out.alloc HBW.out.size _).grown hg2 (by have := HBW.out.size; simp <;> omega) (fun b hb => (recs_base HO.out hb).1))
        have n1 := own_neT HO.out HRA.out (by decide)
        have n2 := own_neT HO.out HRB.out (by decide)
        have HRA2 := Lib.hid ((hg2.block _ (block_lt (row_allocW HRA.out _)) (fun e => n1 _ e.symm rfl)).trans (row_allocW HRA.out _))
        have HRB2 := Lib.hid ((hg2.block _ (block_lt (row_allocW HRB.out _)) (fun e => n2 _ e.symm rfl)).trans (row_allocW HRB.out _))
        clear hown2 hg2 hn2 hat2 hcp n1 n2
        go_wp2
        go_roundw
        case rel => exact ⟨k + 1, by omega, by go_num, HO2.out, HB2.out, HRA2.out, HRB2.out⟩
        case measure => simp [intOf]; omega
    · obtain rfl : k = n := by omega
      have hown := HO.out
      rw [List.take_of_length_le (by have := HN.out; omega)] at hown
      have hps := ps_of_ls (LS.of_own hown Pst.cells_length (by decide)) HWF.out
      obtain ⟨q2, c2, rfl⟩ := rec_formT hown
      have HP2 := Lib.hid hps
      clear hown hbw hps
      go_wp2_with fail
      clear hcp
      refine (HSU.out _ _ _ _ rfl HP2.out).mono ?_
      rintro e w3 ⟨rfl, hb⟩
      have HB3 := Lib.hid (HBW.out.trans (hb.mono HBW.out.size))
      have HR3 := Lib.hid ((hb.block _ (block_lt HRB.out)).trans HRB.out)
      clear hb
      have th8 := there_newT (w := w3) (zs := [.int .i64 0, .int .i64 0, .int .i64 0, .int .i64 0, .int .i64 0, .int .i64 0, .int .i64 0]) (e := 59) (n := 7) rfl
      have h8n : ([.int .i64 M, .int .i64 y0, .int .i64 y1, .int .i64 y2, .int .i64 y3, .int .i64 y4, .int .i64 y5] : List Value).length = 7 := rfl
      have h8c : ([.int .i64 M, .int .i64 y0, .int .i64 y1, .int .i64 y2, .int .i64 y3, .int .i64 y4, .int .i64 y5] : List Value).all (·.oneCell') = true := rfl
      go_upto_region 8 with fail
      have HP := Lib.hid (putRec (W := w3) (e := 59) (zs := [.int .i64 0, .int .i64 0, .int .i64 0, .int .i64 0, .int .i64 0, .int .i64 0, .int .i64 0]) (cs := [.int .i64 M, .int .i64 y0, .int .i64 y1, .int .i64 y2, .int .i64 y3, .int .i64 y4, .int .i64 y5]) rfl)
      replace HB3 := Lib.hid (HB3.out.trans (HP.out.2.mono HB3.out.size))
      replace HR3 := Lib.hid ((HP.out.2.block _ (block_lt HR3.out)).trans HR3.out)
      have HR5 := Lib.hid HP.out.1
      clear HP th8 h8n h8c
      generalize (w3.alloc (.cells ([.int .i64 0, .int .i64 0, .int .i64 0, .int .i64 0, .int .i64 0, .int .i64 0, .int .i64 0] : List Value).toArray 59 (0, 0))).setCells w3.heap.size 0 [.int .i64 M, .int .i64 y0, .int .i64 y1, .int .i64 y2, .int .i64 y3, .int .i64 y4, .int .i64 y5] = w4 at *
      generalize w3.heap.size = g5 at *
      have th := there_rowT (n := 7) HR3.out rfl
      have h1n : ([.int .i64 M, .int .i64 y0, .int .i64 y1, .int .i64 y2, .int .i64 y3, .int .i64 y4, .int .i64 y5] : List Value).length = 7 := rfl
      have h1c : ([.int .i64 M, .int .i64 y0, .int .i64 y1, .int .i64 y2, .int .i64 y3, .int .i64 y4, .int .i64 y5] : List Value).all (·.oneCell') = true := rfl
      obtain ⟨f1, f2⟩ := row_loT 7 HR5.out rfl rfl
      go_wp2_with fail
      have hr6 := setCells_rowT (g := w.heap.size + 1) (cs := [.int .i64 M, .int .i64 y0, .int .i64 y1, .int .i64 y2, .int .i64 y3, .int .i64 y4, .int .i64 y5]) HR3.out rfl
      (try simp only [Exit.inBlock, Exit.then])
      refine bodyPost_ret (results_cellT rfl _ _ (w.heap.size + 1) rfl (loadTt hr6 rfl)) rfl ?_
      exact ⟨rfl, Only.below HB3.out (by omega) HB3.out.size ((Only.refl (w.heap.size + 1) _).setCells 0 _)⟩
end Go.Proofs.YtellhmbebimenaaDoor
end
