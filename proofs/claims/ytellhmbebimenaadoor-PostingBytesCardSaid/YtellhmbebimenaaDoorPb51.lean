/- A row of records in a block of its own, written in place: exchange of two; slices.swapRangeCmpFunc at postings. -/
import Derived.Test.YtellhmbebimenaaDoorPb25
import Derived.Test.YtellhmbebimenaaDoorPb50
import Derived.Test.YtellhmbebimenaaDoorPb18
import Derived.Deep.RegionHeld3
import Derived.Deep.MidRow
import Derived.BigRegion
import Derived.Deep.DrawnRows

set_option linter.unusedVariables false
set_option linter.unusedSimpArgs false
namespace Go.Proofs.YtellhmbebimenaaDoor
open Go.RowKit

theorem post_execLoad (ρ : Operand → Value) (dst : Option Tmp) (x : Operand) (ty : TypeId) (pos : String) (after : Array Edge) (guard : Option (Nat × Bool)) :
    execOp ρ { dst, op := .load 49 x, type := ty, pos, after, guard } = recLoad 49 (ρ x) := rfl
theorem post_execStore (ρ : Operand → Value) (dst : Option Tmp) (x y : Operand) (ty : TypeId) (pos : String) (after : Array Edge) (guard : Option (Nat × Bool)) :
    execOp ρ { dst, op := .store 49 x y, type := ty, pos, after, guard } = recStore 49 (ρ x) (ρ y) := rfl
theorem post_load (w : World) (b o : Nat) (h : okL 10 w b o) : (recLoad 49 (.pointer (some ⟨b, o, none⟩))).run Tryd.prog w = .ok (.value (.agg (loL 10 w b o).toArray)) w := by
  unfold recLoad
  rw [Sem.run_bind, run_load_rec 10 Tryd.underlying49 rfl (by kernel_rfl) w b o h]
  rfl
theorem post_store (w : World) (b o : Nat) (cs : List Value) (ht : w.there b o 10) (hn : cs.length = 10) (h1 : cs.all (·.oneCell') = true) :
    (recStore 49 (.pointer (some ⟨b, o, none⟩)) (.agg cs.toArray)).run Tryd.prog w = .ok .skip (w.setCells b o cs) := by
  unfold recStore
  rw [Sem.run_bind, run_store_rec 10 (by kernel_rfl) w b o cs ht hn h1]
  rfl
attribute [local go_sem ↓] post_execLoad post_execStore

attribute [local go_sem] post_load post_store loL_drew okL_drew there_sc World.there_drew

theorem Pst.cells_length (x : Pst) : x.cells.length = 10 := rfl
theorem Pst.cells_one (x : Pst) : ∀ v ∈ x.cells, v.oneCell' = true := by
  intro u hu
  simp [Pst.cells] at hu
  rcases hu with h | h | h | h | h | h | h | h | h | h <;> subst h <;> rfl

set_option maxRecDepth 100000 in
set_option maxHeartbeats 1000000 in
theorem swapRange_any (P x Y z Q : List Pst) (cf : Value) (g cap : Nat) (w : World) (hxz : x.length = z.length) (hcap : (P ++ x ++ Y ++ z ++ Q).length ≤ cap) (hmax : (P ++ x ++ Y ++ z ++ Q).length ≤ 1099511627776)
    (h : RowL Pst.cells 10 w g (P ++ x ++ Y ++ z ++ Q)) :
    Calls Tryd.prog 186 #[.slice (some ⟨g, 0, none⟩) (P ++ x ++ Y ++ z ++ Q).length cap, .int .i64 (P.length : Int), .int .i64 ((P ++ x ++ Y).length : Int), .int .i64 (x.length : Int), cf] w
      fun e w' => e = .returned (.tuple #[]) ∧ RowL Pst.cells 10 w' g (P ++ z ++ Y ++ x ++ Q) ∧ Only g w w' := by
  generalize hN : (P ++ x ++ Y ++ z ++ Q).length = N at *
  generalize ha : P.length = a at *
  generalize hb : (P ++ x ++ Y).length = b at *
  generalize hn : x.length = n at *
  have HH := Lib.hid h; clear h
  have hab : a + n ≤ b := by rw [← hb, ← ha, ← hn]; simp
  have hbn : b + n ≤ N := by rw [← hb, ← hN, hxz]; simp; omega
  have HB := Lib.hid hb; clear hb
  have HA := Lib.hid ha; clear ha
  have HX := Lib.hid hn; clear hn
  have HZ := Lib.hid hxz; clear hxz
  clear hN
  go_enter Tryd.func186, Tryd.ntmps186
  go_wp2
  go_loopw [10] (fun i wr => ∃ (k : Nat) (x1 x2 z1 z2 : List Pst), k ≤ n ∧ i = .int .i64 k ∧ x1.length = k ∧ z1.length = k ∧ x = x1 ++ x2 ∧ z = z1 ++ z2 ∧ RowL Pst.cells 10 wr g (P ++ z1 ++ x2 ++ Y ++ x1 ++ z2 ++ Q) ∧ Only g w wr) (fun i _ => n - (intOf i).toNat)
  case atStart => exact ⟨0, [], x, [], z, Nat.zero_le _, rfl, rfl, rfl, rfl, rfl, by simpa using HH.out, Only.refl _ _⟩
  case round =>
    obtain ⟨k, x1, x2, z1, z2, hk, rfl, e1, e2, e3, e4, hrow, hon⟩ := hrel
    have HON := Lib.hid hon; clear hon
    have HROW := Lib.hid hrow; clear hrow
    have E1 := Lib.hid e1; have E2 := Lib.hid e2; have E3 := Lib.hid e3; have E4 := Lib.hid e4; clear e1 e2 e3 e4
    by_cases hlt : k < n
    · obtain ⟨u, x2, rfl⟩ : ∃ u r, x2 = u :: r := by
        cases x2 with
        | nil => have := HX.out; rw [E3.out] at this; simp at this; have := E1.out; omega
        | cons u r => exact ⟨u, r, rfl⟩
      obtain ⟨v, z2, rfl⟩ : ∃ u r, z2 = u :: r := by
        cases z2 with
        | nil => have := HZ.out; rw [E4.out] at this; simp at this; have := E2.out; omega
        | cons u r => exact ⟨u, r, rfl⟩
      have hL : P ++ z1 ++ u :: x2 ++ Y ++ x1 ++ v :: z2 ++ Q = (P ++ z1) ++ u :: ((x2 ++ Y ++ x1) ++ v :: (z2 ++ Q)) := by simp
      have hla : (P ++ z1).length = a + k := by rw [List.length_append, HA.out, E2.out]
      have hlb : (P ++ z1).length + 1 + (x2 ++ Y ++ x1).length = b + k := by
        rw [hla]; have h1 := HB.out; rw [E3.out] at h1; have h2 := E1.out; have h3 := HA.out; simp at h1 ⊢; omega
      have HR : Hid (RowL Pst.cells 10 wr g ((P ++ z1) ++ u :: ((x2 ++ Y ++ x1) ++ v :: (z2 ++ Q)))) := Lib.hid (by rw [← hL]; exact HROW.out)
      have hat := at_mid (P ++ z1) (x2 ++ Y ++ x1) (z2 ++ Q) u v
      have g1 := HR.out.1 _ _ hat.1
      have g2 := HR.out.1 _ _ hat.2
      have g3 := HR.out.2 _ (List.getElem?_eq_some_iff.1 hat.1).1
      have g4 := HR.out.2 _ (List.getElem?_eq_some_iff.1 hat.2).1
      rw [hlb] at g2 g4
      rw [hla] at g1 g3
      obtain ⟨p, hp⟩ : ∃ p, p = a + k := ⟨_, rfl⟩
      obtain ⟨q, hq⟩ : ∃ q, q = b + k := ⟨_, rfl⟩
      rw [← hp] at g1 g3
      rw [← hq] at g2 g4
      have hs1 : IntKind.i64.wrap ((a : Int) + (k : Int)) = (p : Int) := by rw [IntKind.wrap_i64]; omega
      have hs2 : IntKind.i64.wrap ((b : Int) + (k : Int)) = (q : Int) := by rw [IntKind.wrap_i64]; omega
      have hpN : (p : Int) < (N : Int) := by omega
      have hqN : (q : Int) < (N : Int) := by omega
      have hp0 : (0 : Int) ≤ (p : Int) := by omega
      have hq0 : (0 : Int) ≤ (q : Int) := by omega
      have hpq : p * 10 + 10 ≤ q * 10 := by omega
      have HP := Lib.hid hp; have HQ := Lib.hid hq; have HLA := Lib.hid hla; have HLB := Lib.hid hlb
      clear hp hq hla hlb hL hat
      have hl1 := Pst.cells_length u
      have hl2 := Pst.cells_length v
      have ho1 : u.cells.all (·.oneCell') = true := List.all_eq_true.2 (Pst.cells_one u)
      have ho2 : v.cells.all (·.oneCell') = true := List.all_eq_true.2 (Pst.cells_one v)
      generalize hcu : u.cells = cu at *
      generalize hcv : v.cells = cv at *
      have HCU := Lib.hid hcu; have HCV := Lib.hid hcv; clear hcu hcv
      obtain ⟨f1, f2⟩ := loL_of g1 hl1
      obtain ⟨f3, f4⟩ := loL_of g2 hl2
      clear g1 g2
      go_wp2_with fail
      go_region
      go_wp2
      go_roundw
      case rel =>
        refine ⟨k + 1, x1 ++ [u], x2, z1 ++ [v], z2, by omega, by go_num, by simp [E1.out], by simp [E2.out], by rw [E3.out]; simp, by rw [E4.out]; simp, ?_, (HON.out.drew.setCells _ _).setCells _ _⟩
        have h1 := RowL.swap (w := wr.drew) Pst.cells_length HR.out
        rw [HLB.out, HLA.out, HCU.out, HCV.out, ← HP.out, ← HQ.out] at h1
        simpa using h1
      case measure => simp [intOf]; omega
    · obtain rfl : k = n := by omega
      go_wp2
      go_end0
      refine ⟨rfl, ?_, HON.out⟩
      have e1 : x2 = [] := by have h1 := HX.out; rw [E3.out] at h1; have h2 := E1.out; simp at h1; exact List.length_eq_zero_iff.1 (by omega)
      have e2 : z2 = [] := by have h1 := HZ.out; rw [E4.out] at h1; have h2 := E2.out; simp at h1; exact List.length_eq_zero_iff.1 (by omega)
      have h1 := HROW.out
      rw [e1, e2] at h1
      rw [E3.out, E4.out, e1, e2]
      simpa using h1
end Go.Proofs.YtellhmbebimenaaDoor
