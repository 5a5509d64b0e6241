/- A row of records in a block of its own, written in place: exchange of two; slices.swapRangeCmpFunc at postings. Contracts: slices.rotateCmpFunc and insertionSortCmpFunc at postings, their order's function handed in. -/
import Derived.Test.YtajpggnmhkpbkaaRfw12
import Derived.Test.YtajpggnmhkpbkaaRfw13
import Derived.Deep.RegionHeld3
import Derived.Deep.MidRow
import Derived.BigRegion
import Derived.Deep.DrawnRows

section
set_option linter.unusedVariables false
set_option linter.unusedSimpArgs false
namespace Go.Proofs.Ytajpggnmhkpbkaa
open Go.RowKit

theorem post_execLoad (ρ : Operand → Value) (dst : Option Tmp) (x : Operand) (ty : TypeId) (pos : String) (after : Array Edge) (guard : Option (Nat × Bool)) :
    execOp ρ { dst, op := .load 68 x, type := ty, pos, after, guard } = recLoad 68 (ρ x) := rfl
theorem post_execStore (ρ : Operand → Value) (dst : Option Tmp) (x y : Operand) (ty : TypeId) (pos : String) (after : Array Edge) (guard : Option (Nat × Bool)) :
    execOp ρ { dst, op := .store 68 x y, type := ty, pos, after, guard } = recStore 68 (ρ x) (ρ y) := rfl
theorem post_load (w : World) (b o : Nat) (h : okL 10 w b o) : (recLoad 68 (.pointer (some ⟨b, o, none⟩))).run Try.prog w = .ok (.value (.agg (loL 10 w b o).toArray)) w := by
  unfold recLoad
  rw [Sem.run_bind, run_load_rec 10 Try.underlying68 rfl (by kernel_rfl) w b o h]
  rfl
theorem post_store (w : World) (b o : Nat) (cs : List Value) (ht : w.there b o 10) (hn : cs.length = 10) (h1 : cs.all (·.oneCell') = true) :
    (recStore 68 (.pointer (some ⟨b, o, none⟩)) (.agg cs.toArray)).run Try.prog w = .ok .skip (w.setCells b o cs) := by
  unfold recStore
  rw [Sem.run_bind, run_store_rec 10 (by kernel_rfl) w b o cs ht hn h1]
  rfl
attribute [local go_sem ↓] post_execLoad post_execStore

attribute [local go_sem] post_load post_store loL_drew okL_drew there_sc World.there_drew

theorem Pst.cells_length (x : Pst) : x.cells.length = 10 := rfl
theorem Pst.cells_one (x : Pst) : ∀ v ∈ x.cells, v.oneCell' = true := by
  intro u hu
  simp [Pst.cells] at hu
  rcases hu with h | h | h | h | h | h | h | h | h | h <;> subst h <;> rfl

set_option maxRecDepth 100000 in
set_option maxHeartbeats 1000000 in
theorem swapRange_any (P x Y z Q : List Pst) (cf : Value) (g cap : Nat) (w : World) (hxz : x.length = z.length) (hcap : (P ++ x ++ Y ++ z ++ Q).length ≤ cap) (hmax : (P ++ x ++ Y ++ z ++ Q).length ≤ 1099511627776)
    (h : RowL Pst.cells 10 w g (P ++ x ++ Y ++ z ++ Q)) :
    Calls Try.prog 97 #[.slice (some ⟨g, 0, none⟩) (P ++ x ++ Y ++ z ++ Q).length cap, .int .i64 (P.length : Int), .int .i64 ((P ++ x ++ Y).length : Int), .int .i64 (x.length : Int), cf] w
      fun e w' => e = .returned (.tuple #[]) ∧ RowL Pst.cells 10 w' g (P ++ z ++ Y ++ x ++ Q) ∧ Only g w w' := by
  generalize hN : (P ++ x ++ Y ++ z ++ Q).length = N at *
  generalize ha : P.length = a at *
  generalize hb : (P ++ x ++ Y).length = b at *
  generalize hn : x.length = n at *
  have HH := Lib.hid h; clear h
  have hab : a + n ≤ b := by rw [← hb, ← ha, ← hn]; simp
  have hbn : b + n ≤ N := by rw [← hb, ← hN, hxz]; simp; omega
  have HB := Lib.hid hb; clear hb
  have HA := Lib.hid ha; clear ha
  have HX := Lib.hid hn; clear hn
  have HZ := Lib.hid hxz; clear hxz
  clear hN
  go_enter Try.func97, Try.ntmps97
  go_wp2
  go_loopw [10] (fun i wr => ∃ (k : Nat) (x1 x2 z1 z2 : List Pst), k ≤ n ∧ i = .int .i64 k ∧ x1.length = k ∧ z1.length = k ∧ x = x1 ++ x2 ∧ z = z1 ++ z2 ∧ RowL Pst.cells 10 wr g (P ++ z1 ++ x2 ++ Y ++ x1 ++ z2 ++ Q) ∧ Only g w wr) (fun i _ => n - (intOf i).toNat)
  case atStart => exact ⟨0, [], x, [], z, Nat.zero_le _, rfl, rfl, rfl, rfl, rfl, by simpa using HH.out, Only.refl _ _⟩
  case round =>
    obtain ⟨k, x1, x2, z1, z2, hk, rfl, e1, e2, e3, e4, hrow, hon⟩ := hrel
    have HON := Lib.hid hon; clear hon
    have HROW := Lib.hid hrow; clear hrow
    have E1 := Lib.hid e1; have E2 := Lib.hid e2; have E3 := Lib.hid e3; have E4 := Lib.hid e4; clear e1 e2 e3 e4
    by_cases hlt : k < n
    · obtain ⟨u, x2, rfl⟩ : ∃ u r, x2 = u :: r := by
        cases x2 with
        | nil => have := HX.out; rw [E3.out] at this; simp at this; have := E1.out; omega
        | cons u r => exact ⟨u, r, rfl⟩
      obtain ⟨v, z2, rfl⟩ : ∃ u r, z2 = u :: r := by
        cases z2 with
        | nil => have := HZ.out; rw [E4.out] at this; simp at this; have := E2.out; omega
        | cons u r => exact ⟨u, r, rfl⟩
      have hL : P ++ z1 ++ u :: x2 ++ Y ++ x1 ++ v :: z2 ++ Q = (P ++ z1) ++ u :: ((x2 ++ Y ++ x1) ++ v :: (z2 ++ Q)) := by simp
      have hla : (P ++ z1).length = a + k := by rw [List.length_append, HA.out, E2.out]
      have hlb : (P ++ z1).length + 1 + (x2 ++ Y ++ x1).length = b + k := by
        rw [hla]; have h1 := HB.out; rw [E3.out] at h1; have h2 := E1.out; have h3 := HA.out; simp at h1 ⊢; omega
      have HR : Hid (RowL Pst.cells 10 wr g ((P ++ z1) ++ u :: ((x2 ++ Y ++ x1) ++ v :: (z2 ++ Q)))) := Lib.hid (by rw [← hL]; exact HROW.out)
      have hat := at_mid (P ++ z1) (x2 ++ Y ++ x1) (z2 ++ Q) u v
      have g1 := HR.out.1 _ _ hat.1
      have g2 := HR.out.1 _ _ hat.2
      have g3 := HR.out.2 _ (List.getElem?_eq_some_iff.1 hat.1).1
      have g4 := HR.out.2 _ (List.getElem?_eq_some_iff.1 hat.2).1
      rw [hlb] at g2 g4
      rw [hla] at g1 g3
      obtain ⟨p, hp⟩ : ∃ p, p = a + k := ⟨_, rfl⟩
      obtain ⟨q, hq⟩ : ∃ q, q = b + k := ⟨_, rfl⟩
      rw [← hp] at g1 g3
      rw [← hq] at g2 g4
      have hs1 : IntKind.i64.wrap ((a : Int) + (k : Int)) = (p : Int) := by rw [IntKind.wrap_i64]; omega
      have hs2 : IntKind.i64.wrap ((b : Int) + (k : Int)) = (q : Int) := by rw [IntKind.wrap_i64]; omega
      have hpN : (p : Int) < (N : Int) := by omega
      have hqN : (q : Int) < (N : Int) := by omega
      have hp0 : (0 : Int) ≤ (p : Int) := by omega
      have hq0 : (0 : Int) ≤ (q : Int) := by omega
      have hpq : p * 10 + 10 ≤ q * 10 := by omega
      have HP := Lib.hid hp; have HQ := Lib.hid hq; have HLA := Lib.hid hla; have HLB := Lib.hid hlb
      clear hp hq hla hlb hL hat
      have hl1 := Pst.cells_length u
      have hl2 := Pst.cells_length v
      have ho1 : u.cells.all (·.oneCell') = true := List.all_eq_true.2 (Pst.cells_one u)
      have ho2 : v.cells.all (·.oneCell') = true := List.all_eq_true.2 (Pst.cells_one v)
      generalize hcu : u.cells = cu at *
      generalize hcv : v.cells = cv at *
      have HCU := Lib.hid hcu; have HCV := Lib.hid hcv; clear hcu hcv
      obtain ⟨f1, f2⟩ := loL_of g1 hl1
      obtain ⟨f3, f4⟩ := loL_of g2 hl2
      clear g1 g2
      go_wp2_with fail
      go_region
      go_wp2
      go_roundw
      case rel =>
        refine ⟨k + 1, x1 ++ [u], x2, z1 ++ [v], z2, by omega, by go_num, by simp [E1.out], by simp [E2.out], by rw [E3.out]; simp, by rw [E4.out]; simp, ?_, (HON.out.drew.setCells _ _).setCells _ _⟩
        have h1 := RowL.swap (w := wr.drew) Pst.cells_length HR.out
        rw [HLB.out, HLA.out, HCU.out, HCV.out, ← HP.out, ← HQ.out] at h1
        simpa using h1
      case measure => simp [intOf]; omega
    · obtain rfl : k = n := by omega
      go_wp2
      go_end0
      refine ⟨rfl, ?_, HON.out⟩
      have e1 : x2 = [] := by have h1 := HX.out; rw [E3.out] at h1; have h2 := E1.out; simp at h1; exact List.length_eq_zero_iff.1 (by omega)
      have e2 : z2 = [] := by have h1 := HZ.out; rw [E4.out] at h1; have h2 := E2.out; simp at h1; exact List.length_eq_zero_iff.1 (by omega)
      have h1 := HROW.out
      rw [e1, e2] at h1
      rw [E3.out, E4.out, e1, e2]
      simpa using h1
end Go.Proofs.Ytajpggnmhkpbkaa
end

section
set_option linter.unusedVariables false
set_option linter.unusedSimpArgs false
namespace Go.Proofs.Ytajpggnmhkpbkaa
open Go.RowKit
attribute [local go_sem ↓] post_execLoad post_execStore

attribute [local go_sem] post_load post_store loL_drew okL_drew there_sc World.there_drew

/-- a posting's key as one number -/
def keyP (x : Pst) : Int := x.t * 36893488147419103232 + x.s
theorem ord_key {x y : Pst} (hx : x.wf) (hy : y.wf) : ordI x y < 0 ↔ keyP x < keyP y := by
  have h1 : -9223372036854775808 ≤ x.s ∧ x.s ≤ 9223372036854775807 := by
    have := hx.2.2.1; simpa [Lit.wf, IntKind.min, IntKind.max, IntKind.signed, IntKind.bits] using this
  have h2 : -9223372036854775808 ≤ y.s ∧ y.s ≤ 9223372036854775807 := by
    have := hy.2.2.1; simpa [Lit.wf, IntKind.min, IntKind.max, IntKind.signed, IntKind.bits] using this
  have h := ord_less x y
  unfold lessP at h
  have h' : ordI x y < 0 ↔ (x.t < y.t ∨ x.t = y.t ∧ x.s < y.s) := by
    rw [← decide_eq_true_iff (p := ordI x y < 0), h]; simp
  rw [h']
  unfold keyP
  omega
def cmpV : Value := .func (.func 61) #[] #[]
theorem order_cells (x y : Pst) (w : World) : Calls Try.prog 61 #[.agg x.cells.toArray, .agg y.cells.toArray] w fun e w' => e = .returned (.int .i64 (ordI x y)) ∧ Below w.heap.size w w' := order_any x y w

theorem loL_below {n : Nat} {w w' : World} {g o : Nat} (hg : g < w.heap.size) (hb : Below w.heap.size w w') : loL n w' g o = loL n w g o := by
  unfold loL
  refine List.map_congr_left fun j _ => ?_
  rw [hb.cell (p := ⟨g, o + j, none⟩) hg]
theorem okL_below {n : Nat} {w w' : World} {g o : Nat} (hg : g < w.heap.size) (hb : Below w.heap.size w w') (h : okL n w g o) : okL n w' g o := by
  intro j hj
  rw [hb.cell (p := ⟨g, o + j, none⟩) hg]
  exact h j hj
theorem okL_block {n : Nat} {w : World} {g o : Nat} (h : okL n w g o) (hn : 0 < n) : g < w.heap.size := by
  obtain ⟨u, hu⟩ := Option.isSome_iff_exists.1 (h 0 hn)
  exact cell_blockW hu

set_option maxRecDepth 100000 in
set_option maxHeartbeats 1000000 in
theorem rotate_any (P x y Q : List Pst) (cf : Value) (g cap : Nat) (w : World) (hx : 0 < x.length) (hy : 0 < y.length) (hcap : (P ++ x ++ y ++ Q).length ≤ cap) (hmax : (P ++ x ++ y ++ Q).length ≤ 1099511627776)
    (h : RowL Pst.cells 10 w g (P ++ x ++ y ++ Q)) :
    Calls Try.prog 95 #[.slice (some ⟨g, 0, none⟩) (P ++ x ++ y ++ Q).length cap, .int .i64 (P.length : Int), .int .i64 ((P ++ x).length : Int), .int .i64 ((P ++ x ++ y).length : Int), cf] w
      fun e w' => e = .returned (.tuple #[]) ∧ RowL Pst.cells 10 w' g (P ++ y ++ x ++ Q) ∧ Only g w w' := by
  generalize hN : (P ++ x ++ y ++ Q).length = N at *
  generalize ha : P.length = a at *
  generalize hm : (P ++ x).length = m at *
  generalize hb : (P ++ x ++ y).length = b at *
  have e1 : m = a + x.length := by rw [← hm, ← ha]; simp
  have e2 : b = m + y.length := by rw [← hb, ← hm]; simp; omega
  have e3 : b ≤ N := by rw [← hb, ← hN]; simp
  generalize hX : x.length = xn at *
  generalize hY : y.length = yn at *
  have HH := Lib.hid h; clear h
  have HN := Lib.hid hN; have HA := Lib.hid ha; have HX := Lib.hid hX; have HY := Lib.hid hY
  clear hN ha hX hY hm hb
  have hs1 : IntKind.i64.wrap ((m : Int) - (a : Int)) = (xn : Int) := by rw [IntKind.wrap_i64]; omega
  have hs2 : IntKind.i64.wrap ((b : Int) - (m : Int)) = (yn : Int) := by rw [IntKind.wrap_i64]; omega
  have E1 := Lib.hid e1; have E2 := Lib.hid e2
  have hm0 : xn ≤ m := by omega
  have hb0 : m + yn ≤ N := by omega
  clear e1 e2
  go_enter Try.func95, Try.ntmps95
  go_wp2
  go_loopw [10, 11] (fun i j wr => ∃ (p u v q : List Pst), 0 < u.length ∧ 0 < v.length ∧ i = .int .i64 (u.length : Int) ∧ j = .int .i64 (v.length : Int) ∧ p.length + u.length = m ∧ (p ++ u ++ v ++ q).length = N ∧
      p ++ v ++ u ++ q = P ++ y ++ x ++ Q ∧ RowL Pst.cells 10 wr g (p ++ u ++ v ++ q) ∧ Only g w wr) (fun i j _ => ((intOf i) + (intOf j)).toNat)
  case atStart => exact ⟨P, x, y, Q, by rw [HX.out]; exact hx, by rw [HY.out]; exact hy, by rw [HX.out], by rw [HY.out], by rw [HA.out, HX.out]; exact E1.out.symm, HN.out, rfl, HH.out, Only.refl _ _⟩
  case round =>
    obtain ⟨p, u, v, q, hu, hv, rfl, rfl, hpu, hlen, hfin, hrow, hon⟩ := hrel
    have HFIN := Lib.hid hfin; have HROW := Lib.hid hrow; have HON := Lib.hid hon; have HLEN := Lib.hid hlen; have HPU := Lib.hid hpu
    clear hfin hrow hon hpu
    have hle : u.length + v.length ≤ N := by rw [← hlen]; simp; omega
    clear hlen
    generalize hun : u.length = un at *
    generalize hvn : v.length = vn at *
    generalize hpn : p.length = pn at *
    have HUN := Lib.hid hun; have HVN := Lib.hid hvn; have HPN := Lib.hid hpn
    clear hun hvn hpn
    have hpm : pn + un = m := HPU.out
    have hs3 : IntKind.i64.wrap ((m : Int) - (un : Int)) = (pn : Int) := by rw [IntKind.wrap_i64]; omega
    rcases (by omega : un = vn ∨ vn < un ∨ un < vn) with he | he | he
    · have HE := Lib.hid he
      subst he
      have HS := Lib.hid (swapRange_any p u [] v q cf g cap wr (by rw [HUN.out, HVN.out]) (by have := HLEN.out; simp at this ⊢; omega) (by have := HLEN.out; simp at this ⊢; omega) (by simpa using HROW.out))
      have q1 : (p ++ u ++ []).length = m := by simp [HPN.out, HUN.out]; omega
      have q2 : (p ++ u ++ [] ++ v ++ q).length = N := by rw [← HLEN.out]; simp
      rw [HPN.out, HUN.out, q1, q2] at HS
      clear q1 q2
      clear hpm
      go_wp2_with fail
      refine HS.out.mono ?_
      rintro e w1 ⟨rfl, hr1, ho1⟩
      have HR1 := Lib.hid hr1; have HO1 := Lib.hid ho1; clear hr1 ho1
      go_wp2
      go_end0
      exact ⟨rfl, by rw [← HFIN.out]; simpa using HR1.out, HON.out.trans HO1.out⟩
    · obtain ⟨u1, u2, rfl, hu1⟩ : ∃ u1 u2, u = u1 ++ u2 ∧ u1.length = vn := ⟨u.take vn, u.drop vn, (List.take_append_drop _ _).symm, by rw [List.length_take, HUN.out]; omega⟩
      have hu2 : u2.length = un - vn := by have := HUN.out; simp at this; omega
      have HS := Lib.hid (swapRange_any p u1 u2 v q cf g cap wr (by rw [hu1, HVN.out]) (by have := HLEN.out; simp at this ⊢; omega) (by have := HLEN.out; simp at this ⊢; omega) (by simpa using HROW.out))
      have q1 : (p ++ u1 ++ u2).length = m := by simp [HPN.out, hu1, hu2]; omega
      have q2 : (p ++ u1 ++ u2 ++ v ++ q).length = N := by rw [← HLEN.out]; simp
      rw [HPN.out, hu1, q1, q2] at HS
      clear q1 q2
      have HU1 := Lib.hid hu1; have HU2 := Lib.hid hu2; clear hu1 hu2
      obtain ⟨dn, hdn⟩ : ∃ dn, dn = un - vn := ⟨_, rfl⟩
      have hs4 : IntKind.i64.wrap ((un : Int) - (vn : Int)) = (dn : Int) := by rw [IntKind.wrap_i64]; omega
      have HPM := Lib.hid hpm; clear hpm
      have HDN := Lib.hid hdn; clear hdn
      go_wp2_with fail
      refine HS.out.mono ?_
      rintro e w1 ⟨rfl, hr1, ho1⟩
      have HR1 := Lib.hid hr1; have HO1 := Lib.hid ho1; clear hr1 ho1
      go_wp2
      go_roundw
      case rel =>
        have hd := HDN.out
        have hpm := HPM.out
        refine ⟨p ++ v, u2, u1, q, by rw [HU2.out]; omega, by rw [HU1.out]; omega, by rw [HU2.out, hd], by rw [HU1.out], by simp [HPN.out, HVN.out, HU2.out]; omega, by rw [← HLEN.out]; simp; omega, by rw [← HFIN.out]; simp, by simpa using HR1.out, HON.out.trans HO1.out⟩
      case measure => have := HDN.out; simp [intOf]; omega
    · obtain ⟨v1, v2, rfl, hv1⟩ : ∃ v1 v2, v = v1 ++ v2 ∧ v1.length = vn - un := ⟨v.take (vn - un), v.drop (vn - un), (List.take_append_drop _ _).symm, by rw [List.length_take, HVN.out]; omega⟩
      have hv2 : v2.length = un := by have := HVN.out; simp at this; omega
      have HS := Lib.hid (swapRange_any p u v1 v2 q cf g cap wr (by rw [hv2, HUN.out]) (by have := HLEN.out; simp at this ⊢; omega) (by have := HLEN.out; simp at this ⊢; omega) (by simpa using HROW.out))
      obtain ⟨dn, hdn⟩ : ∃ dn, dn = vn - un := ⟨_, rfl⟩
      have q1 : (p ++ u ++ v1).length = m + dn := by simp [HPN.out, HUN.out, hv1]; omega
      have q2 : (p ++ u ++ v1 ++ v2 ++ q).length = N := by rw [← HLEN.out]; simp
      rw [HPN.out, HUN.out, q1, q2] at HS
      clear q1 q2
      obtain ⟨sn, hsn⟩ : ∃ sn, sn = m + dn := ⟨_, rfl⟩
      rw [← hsn] at HS
      have HV1 := Lib.hid hv1; have HV2 := Lib.hid hv2; clear hv1 hv2
      have hs4 : IntKind.i64.wrap ((vn : Int) - (un : Int)) = (dn : Int) := by rw [IntKind.wrap_i64]; omega
      obtain ⟨tn, htn⟩ : ∃ tn, tn = m + vn := ⟨_, rfl⟩
      have hs5 : IntKind.i64.wrap ((m : Int) + (vn : Int)) = (tn : Int) := by rw [IntKind.wrap_i64]; omega
      have hs6 : IntKind.i64.wrap ((tn : Int) - (un : Int)) = (sn : Int) := by rw [IntKind.wrap_i64]; omega
      have hnn : ¬ (vn : Int) < (un : Int) := by omega
      have hnn : ¬ vn < un := by omega
      have HPM := Lib.hid hpm; clear hpm
      have HDN := Lib.hid hdn; clear hdn
      have HSN := Lib.hid hsn; clear hsn
      have HTN := Lib.hid htn; clear htn
      go_wp2_with fail
      refine HS.out.mono ?_
      rintro e w1 ⟨rfl, hr1, ho1⟩
      have HR1 := Lib.hid hr1; have HO1 := Lib.hid ho1; clear hr1 ho1
      go_wp2
      go_roundw
      case rel =>
        have hd := HDN.out
        have hpm := HPM.out
        refine ⟨p, v2, v1, u ++ q, by rw [HV2.out]; omega, by rw [HV1.out]; omega, by rw [HV2.out], by rw [HV1.out, hd], by simp [HPN.out, HV2.out]; omega, by rw [← HLEN.out]; simp; omega, by rw [← HFIN.out]; simp, by simpa using HR1.out, HON.out.trans HO1.out⟩
      case measure => have := HDN.out; simp [intOf]; omega
end Go.Proofs.Ytajpggnmhkpbkaa
end
