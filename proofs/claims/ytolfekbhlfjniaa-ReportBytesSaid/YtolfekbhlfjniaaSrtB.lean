/- Contracts: slices.rotateCmpFunc and insertionSortCmpFunc at postings, their order's function handed in. -/
import Derived.Test.YtolfekbhlfjniaaSrtA
set_option linter.unusedVariables false
set_option linter.unusedSimpArgs false
namespace Go.Proofs.Ytolfekbhlfjniaa
open Go.RowKit
attribute [local go_sem ↓] post_execLoad post_execStore
attribute [local go_sem] post_load post_store loL_drew okL_drew there_sc World.there_drew

/-- a posting's key as one number -/
def keyP (x : Pst) : Int := x.t * 36893488147419103232 + x.s
theorem ord_key {x y : Pst} (hx : x.wf) (hy : y.wf) : ordI x y < 0 ↔ keyP x < keyP y := by
  have h1 : -9223372036854775808 ≤ x.s ∧ x.s ≤ 9223372036854775807 := by
    have := hx.2.2.1; simpa [Lit.wf, IntKind.min, IntKind.max, IntKind.signed, IntKind.bits] using this
  have h2 : -9223372036854775808 ≤ y.s ∧ y.s ≤ 9223372036854775807 := by
    have := hy.2.2.1; simpa [Lit.wf, IntKind.min, IntKind.max, IntKind.signed, IntKind.bits] using this
  have h := ord_less x y
  unfold lessP at h
  have h' : ordI x y < 0 ↔ (x.t < y.t ∨ x.t = y.t ∧ x.s < y.s) := by
    rw [← decide_eq_true_iff (p := ordI x y < 0), h]; simp
  rw [h']
  unfold keyP
  omega
def cmpV : Value := .func (.func 64) #[] #[]
theorem order_cells (x y : Pst) (w : World) : Calls Try.prog 64 #[.agg x.cells.toArray, .agg y.cells.toArray] w fun e w' => e = .returned (.int .i64 (ordI x y)) ∧ Below w.heap.size w w' := order_any x y w

theorem loL_below {n : Nat} {w w' : World} {g o : Nat} (hg : g < w.heap.size) (hb : Below w.heap.size w w') : loL n w' g o = loL n w g o := by
  unfold loL
  refine List.map_congr_left fun j _ => ?_
  rw [hb.cell (p := ⟨g, o + j, none⟩) hg]
theorem okL_below {n : Nat} {w w' : World} {g o : Nat} (hg : g < w.heap.size) (hb : Below w.heap.size w w') (h : okL n w g o) : okL n w' g o := by
  intro j hj
  rw [hb.cell (p := ⟨g, o + j, none⟩) hg]
  exact h j hj
theorem okL_block {n : Nat} {w : World} {g o : Nat} (h : okL n w g o) (hn : 0 < n) : g < w.heap.size := by
  obtain ⟨u, hu⟩ := Option.isSome_iff_exists.1 (h 0 hn)
  exact cell_blockW hu

set_option maxRecDepth 100000 in
set_option maxHeartbeats 1000000 in
theorem rotate_any (P x y Q : List Pst) (cf : Value) (g cap : Nat) (w : World) (hx : 0 < x.length) (hy : 0 < y.length) (hcap : (P ++ x ++ y ++ Q).length ≤ cap) (hmax : (P ++ x ++ y ++ Q).length ≤ 1099511627776)
    (h : RowL Pst.cells 10 w g (P ++ x ++ y ++ Q)) :
    Calls Try.prog 121 #[.slice (some ⟨g, 0, none⟩) (P ++ x ++ y ++ Q).length cap, .int .i64 (P.length : Int), .int .i64 ((P ++ x).length : Int), .int .i64 ((P ++ x ++ y).length : Int), cf] w
      fun e w' => e = .returned (.tuple #[]) ∧ RowL Pst.cells 10 w' g (P ++ y ++ x ++ Q) ∧ Only g w w' := by
  generalize hN : (P ++ x ++ y ++ Q).length = N at *
  generalize ha : P.length = a at *
  generalize hm : (P ++ x).length = m at *
  generalize hb : (P ++ x ++ y).length = b at *
  have e1 : m = a + x.length := by rw [← hm, ← ha]; simp
  have e2 : b = m + y.length := by rw [← hb, ← hm]; simp; omega
  have e3 : b ≤ N := by rw [← hb, ← hN]; simp
  generalize hX : x.length = xn at *
  generalize hY : y.length = yn at *
  have HH := Lib.hid h; clear h
  have HN := Lib.hid hN; have HA := Lib.hid ha; have HX := Lib.hid hX; have HY := Lib.hid hY
  clear hN ha hX hY hm hb
  have hs1 : IntKind.i64.wrap ((m : Int) - (a : Int)) = (xn : Int) := by rw [IntKind.wrap_i64]; omega
  have hs2 : IntKind.i64.wrap ((b : Int) - (m : Int)) = (yn : Int) := by rw [IntKind.wrap_i64]; omega
  have E1 := Lib.hid e1; have E2 := Lib.hid e2
  have hm0 : xn ≤ m := by omega
  have hb0 : m + yn ≤ N := by omega
  clear e1 e2
  go_enter Try.func121, Try.ntmps121
  go_wp2
  go_loopw [10, 11] (fun i j wr => ∃ (p u v q : List Pst), 0 < u.length ∧ 0 < v.length ∧ i = .int .i64 (u.length : Int) ∧ j = .int .i64 (v.length : Int) ∧ p.length + u.length = m ∧ (p ++ u ++ v ++ q).length = N ∧
      p ++ v ++ u ++ q = P ++ y ++ x ++ Q ∧ RowL Pst.cells 10 wr g (p ++ u ++ v ++ q) ∧ Only g w wr) (fun i j _ => ((intOf i) + (intOf j)).toNat)
  case atStart => exact ⟨P, x, y, Q, by rw [HX.out]; exact hx, by rw [HY.out]; exact hy, by rw [HX.out], by rw [HY.out], by rw [HA.out, HX.out]; exact E1.out.symm, HN.out, rfl, HH.out, Only.refl _ _⟩
  case round =>
    obtain ⟨p, u, v, q, hu, hv, rfl, rfl, hpu, hlen, hfin, hrow, hon⟩ := hrel
    have HFIN := Lib.hid hfin; have HROW := Lib.hid hrow; have HON := Lib.hid hon; have HLEN := Lib.hid hlen; have HPU := Lib.hid hpu
    clear hfin hrow hon hpu
    have hle : u.length + v.length ≤ N := by rw [← hlen]; simp; omega
    clear hlen
    generalize hun : u.length = un at *
    generalize hvn : v.length = vn at *
    generalize hpn : p.length = pn at *
    have HUN := Lib.hid hun; have HVN := Lib.hid hvn; have HPN := Lib.hid hpn
    clear hun hvn hpn
    have hpm : pn + un = m := HPU.out
    have hs3 : IntKind.i64.wrap ((m : Int) - (un : Int)) = (pn : Int) := by rw [IntKind.wrap_i64]; omega
    rcases (by omega : un = vn ∨ vn < un ∨ un < vn) with he | he | he
    · have HE := Lib.hid he
      subst he
      have HS := Lib.hid (swapRange_any p u [] v q cf g cap wr (by rw [HUN.out, HVN.out]) (by have := HLEN.out; simp at this ⊢; omega) (by have := HLEN.out; simp at this ⊢; omega) (by simpa using HROW.out))
      have q1 : (p ++ u ++ []).length = m := by simp [HPN.out, HUN.out]; omega
      have q2 : (p ++ u ++ [] ++ v ++ q).length = N := by rw [← HLEN.out]; simp
      rw [HPN.out, HUN.out, q1, q2] at HS
      clear q1 q2
      clear hpm
      go_wp2_with fail
      refine HS.out.mono ?_
      rintro e w1 ⟨rfl, hr1, ho1⟩
      have HR1 := Lib.hid hr1; have HO1 := Lib.hid ho1; clear hr1 ho1
      go_wp2
      go_end0
      exact ⟨rfl, by rw [← HFIN.out]; simpa using HR1.out, HON.out.trans HO1.out⟩
    · obtain ⟨u1, u2, rfl, hu1⟩ : ∃ u1 u2, u = u1 ++ u2 ∧ u1.length = vn := ⟨u.take vn, u.drop vn, (List.take_append_drop _ _).symm, by rw [List.length_take, HUN.out]; omega⟩
      have hu2 : u2.length = un - vn := by have := HUN.out; simp at this; omega
      have HS := Lib.hid (swapRange_any p u1 u2 v q cf g cap wr (by rw [hu1, HVN.out]) (by have := HLEN.out; simp at this ⊢; omega) (by have := HLEN.out; simp at this ⊢; omega) (by simpa using HROW.out))
      have q1 : (p ++ u1 ++ u2).length = m := by simp [HPN.out, hu1, hu2]; omega
      have q2 : (p ++ u1 ++ u2 ++ v ++ q).length = N := by rw [← HLEN.out]; simp
      rw [HPN.out, hu1, q1, q2] at HS
      clear q1 q2
      have HU1 := Lib.hid hu1; have HU2 := Lib.hid hu2; clear hu1 hu2
      obtain ⟨dn, hdn⟩ : ∃ dn, dn = un - vn := ⟨_, rfl⟩
      have hs4 : IntKind.i64.wrap ((un : Int) - (vn : Int)) = (dn : Int) := by rw [IntKind.wrap_i64]; omega
      have HPM := Lib.hid hpm; clear hpm
      have HDN := Lib.hid hdn; clear hdn
      go_wp2_with fail
      refine HS.out.mono ?_
      rintro e w1 ⟨rfl, hr1, ho1⟩
      have HR1 := Lib.hid hr1; have HO1 := Lib.hid ho1; clear hr1 ho1
      go_wp2
      go_roundw
      case rel =>
        have hd := HDN.out
        have hpm := HPM.out
        refine ⟨p ++ v, u2, u1, q, by rw [HU2.out]; omega, by rw [HU1.out]; omega, by rw [HU2.out, hd], by rw [HU1.out], by simp [HPN.out, HVN.out, HU2.out]; omega, by rw [← HLEN.out]; simp; omega, by rw [← HFIN.out]; simp, by simpa using HR1.out, HON.out.trans HO1.out⟩
      case measure => have := HDN.out; simp [intOf]; omega
    · obtain ⟨v1, v2, rfl, hv1⟩ : ∃ v1 v2, v = v1 ++ v2 ∧ v1.length = vn - un := ⟨v.take (vn - un), v.drop (vn - un), (List.take_append_drop _ _).symm, by rw [List.length_take, HVN.out]; omega⟩
      have hv2 : v2.length = un := by have := HVN.out; simp at this; omega
      have HS := Lib.hid (swapRange_any p u v1 v2 q cf g cap wr (by rw [hv2, HUN.out]) (by have := HLEN.out; simp at this ⊢; omega) (by have := HLEN.out; simp at this ⊢; omega) (by simpa using HROW.out))
      obtain ⟨dn, hdn⟩ : ∃ dn, dn = vn - un := ⟨_, rfl⟩
      have q1 : (p ++ u ++ v1).length = m + dn := by simp [HPN.out, HUN.out, hv1]; omega
      have q2 : (p ++ u ++ v1 ++ v2 ++ q).length = N := by rw [← HLEN.out]; simp
      rw [HPN.out, HUN.out, q1, q2] at HS
      clear q1 q2
      obtain ⟨sn, hsn⟩ : ∃ sn, sn = m + dn := ⟨_, rfl⟩
      rw [← hsn] at HS
      have HV1 := Lib.hid hv1; have HV2 := Lib.hid hv2; clear hv1 hv2
      have hs4 : IntKind.i64.wrap ((vn : Int) - (un : Int)) = (dn : Int) := by rw [IntKind.wrap_i64]; omega
      obtain ⟨tn, htn⟩ : ∃ tn, tn = m + vn := ⟨_, rfl⟩
      have hs5 : IntKind.i64.wrap ((m : Int) + (vn : Int)) = (tn : Int) := by rw [IntKind.wrap_i64]; omega
      have hs6 : IntKind.i64.wrap ((tn : Int) - (un : Int)) = (sn : Int) := by rw [IntKind.wrap_i64]; omega
      have hnn : ¬ (vn : Int) < (un : Int) := by omega
      have hnn : ¬ vn < un := by omega
      have HPM := Lib.hid hpm; clear hpm
      have HDN := Lib.hid hdn; clear hdn
      have HSN := Lib.hid hsn; clear hsn
      have HTN := Lib.hid htn; clear htn
      go_wp2_with fail
      refine HS.out.mono ?_
      rintro e w1 ⟨rfl, hr1, ho1⟩
      have HR1 := Lib.hid hr1; have HO1 := Lib.hid ho1; clear hr1 ho1
      go_wp2
      go_roundw
      case rel =>
        have hd := HDN.out
        have hpm := HPM.out
        refine ⟨p, v2, v1, u ++ q, by rw [HV2.out]; omega, by rw [HV1.out]; omega, by rw [HV2.out], by rw [HV1.out, hd], by simp [HPN.out, HV2.out]; omega, by rw [← HLEN.out]; simp; omega, by rw [← HFIN.out]; simp, by simpa using HR1.out, HON.out.trans HO1.out⟩
      case measure => have := HDN.out; simp [intOf]; omega
end Go.Proofs.Ytolfekbhlfjniaa
