/- Contracts of the posting reference: Key, Bytes. -/
import Derived.Test.YtellhmbebimenaaDoorPb42
import Derived.Deep.RegionHeld3

set_option linter.unusedVariables false
set_option linter.unusedSimpArgs false
namespace Go.Proofs.YtellhmbebimenaaDoor
open Go.RowKit

set_option maxRecDepth 4000 in
set_option maxHeartbeats 1000000 in
theorem rKey14_any (d k a0 a1 a2 a3 a4 a5 : Int) (T S : Nat) (hT : T < 18446744073709551616) (hS : S < 65536) (w : World) :
    Calls Tryd.prog 79 #[.agg #[.int .i64 d, .int .u64 (T : Int), .int .i64 (S : Int), .int .i64 k, .int .i64 a0, .int .i64 a1, .int .i64 a2, .int .i64 a3, .int .i64 a4, .int .i64 a5]] w fun e w' => ∃ u, e = .returned u ∧ w'.ownsRow w.heap.size 5 1 u (Wire.be T 8 ++ Wire.be S 2).length (bytesV (Wire.be T 8 ++ Wire.be S 2)) ∧ Below w.heap.size w w' := by
  have z1 : IntKind.u64.wrap (S : Int) = (S : Int) := by rw [IntKind.wrap_u64]; omega
  have hrw : (w.alloc (.cells #[.int .i64 d, .int .u64 (T : Int), .int .i64 (S : Int), .int .i64 k, .int .i64 a0, .int .i64 a1, .int .i64 a2, .int .i64 a3, .int .i64 a4, .int .i64 a5] 49)).heap[w.heap.size]? = some (.cells #[.int .i64 d, .int .u64 (T : Int), .int .i64 (S : Int), .int .i64 k, .int .i64 a0, .int .i64 a1, .int .i64 a2, .int .i64 a3, .int .i64 a4, .int .i64 a5] 49 (0, 0)) := new_rowW _ _ _ rfl
  have hb := (Below.refl w.heap.size w).alloc (Nat.le_refl _) (.cells #[.int .i64 d, .int .u64 (T : Int), .int .i64 (S : Int), .int .i64 k, .int .i64 a0, .int .i64 a1, .int .i64 a2, .int .i64 a3, .int .i64 a4, .int .i64 a5] 49)
  go_enter Tryd.func79, Tryd.ntmps79
  go_wp2_with fail
  generalize w.alloc (.cells #[.int .i64 d, .int .u64 (T : Int), .int .i64 (S : Int), .int .i64 k, .int .i64 a0, .int .i64 a1, .int .i64 a2, .int .i64 a3, .int .i64 a4, .int .i64 a5] 49) = W0 at *
  have hc0 := fun j => cell_of_row W0 w.heap.size j _ _ _ hrw
  have hb := hb.drew
  go_region_held3 (fun w' => w'.cell? ⟨w.heap.size, 1, none⟩ = some (.int .u64 (T : Int)) ∧ w'.cell? ⟨w.heap.size, 2, none⟩ = some (.int .i64 (S : Int))) (first | exact ⟨cell_of_row _ _ 1 _ _ _ hrw, cell_of_row _ _ 2 _ _ _ hrw⟩ | go_keep) (first
    | (go_at_call 78; refine (put14_any w.heap.size _ _ S (by omega) 2 (by decide) (by omega) hl1 _ hb.size ho1).mono ?_; rintro e w2 ⟨u2, rfl, ho2, hg2⟩; have hrw := row_put ho1 hg2 hrw (by decide); have hb := below_put hb hb.size ho1 hg2; obtain ⟨q2, c2, rfl⟩ := own_form ho2)
    | (go_at_call 78; refine (put14_any w.heap.size (.slice none 0 0) [] T hT 8 (by decide) hT (by decide) _ hb.size (World.ownsRow_nil _ _ _ _)).mono ?_; rintro e w1 ⟨u1, rfl, ho1, hg1⟩; have hrw := row_put (World.ownsRow_nil W0.drew w.heap.size 5 1) hg1 hrw (by decide); have hb := below_put hb hb.size (World.ownsRow_nil W0.drew w.heap.size 5 1) hg1; have hl1 : ([] ++ Wire.be T 8).length ≤ 1000 := (by rw [List.nil_append, Wire.be_length]; decide); obtain ⟨q1, c1, rfl⟩ := own_form ho1))
  have HF := Lib.hid hb
  have HO := Lib.hid ho2
  clear hb ho1 ho2 hg1 hg2 hrw
  go_wp2
  go_ret
  exact ⟨_, rfl, HO.out, HF.out⟩

set_option maxRecDepth 4000 in
set_option maxHeartbeats 1000000 in
theorem rBytes14_any (a0 a1 a2 a3 a4 a5 : Int) (D T S K : Nat) (hD : D < 4294967296) (hT : T < 18446744073709551616) (hS : S < 65536) (hK : K < 256) (w : World) :
    Calls Tryd.prog 31 #[.agg #[.int .i64 (D : Int), .int .u64 (T : Int), .int .i64 (S : Int), .int .i64 (K : Int), .int .i64 a0, .int .i64 a1, .int .i64 a2, .int .i64 a3, .int .i64 a4, .int .i64 a5]] w fun e w' => ∃ u, e = .returned u ∧ w'.ownsRow w.heap.size 5 1 u ((((Wire.be T 8 ++ Wire.be S 2) ++ Wire.be D 4) ++ Wire.be K 1) ++ encA [a0, a1, a2, a3, a4, a5]).length (bytesV ((((Wire.be T 8 ++ Wire.be S 2) ++ Wire.be D 4) ++ Wire.be K 1) ++ encA [a0, a1, a2, a3, a4, a5])) ∧ Below w.heap.size w w' := by
  have z1 : IntKind.u64.wrap (D : Int) = (D : Int) := by rw [IntKind.wrap_u64]; omega
  have z2 : IntKind.u64.wrap (K : Int) = (K : Int) := by rw [IntKind.wrap_u64]; omega
  have hrw : (w.alloc (.cells #[.int .i64 (D : Int), .int .u64 (T : Int), .int .i64 (S : Int), .int .i64 (K : Int), .int .i64 a0, .int .i64 a1, .int .i64 a2, .int .i64 a3, .int .i64 a4, .int .i64 a5] 49)).heap[w.heap.size]? = some (.cells #[.int .i64 (D : Int), .int .u64 (T : Int), .int .i64 (S : Int), .int .i64 (K : Int), .int .i64 a0, .int .i64 a1, .int .i64 a2, .int .i64 a3, .int .i64 a4, .int .i64 a5] 49 (0, 0)) := new_rowW _ _ _ rfl
  have hb := (Below.refl w.heap.size w).alloc (Nat.le_refl _) (.cells #[.int .i64 (D : Int), .int .u64 (T : Int), .int .i64 (S : Int), .int .i64 (K : Int), .int .i64 a0, .int .i64 a1, .int .i64 a2, .int .i64 a3, .int .i64 a4, .int .i64 a5] 49)
  have HKEY := Lib.hid (fun W => rKey14_any (D : Int) (K : Int) a0 a1 a2 a3 a4 a5 T S hT hS W)
  have hq1 : (Wire.be T 8 ++ Wire.be S 2).length ≤ 1000 := by rw [List.length_append, Wire.be_length, Wire.be_length]; decide
  have hq2 : ((Wire.be T 8 ++ Wire.be S 2) ++ Wire.be D 4).length ≤ 1000 := by rw [List.length_append, List.length_append, Wire.be_length, Wire.be_length, Wire.be_length]; decide
  have hq3 : (((Wire.be T 8 ++ Wire.be S 2) ++ Wire.be D 4) ++ Wire.be K 1).length = 15 := by rw [List.length_append, List.length_append, List.length_append, Wire.be_length, Wire.be_length, Wire.be_length, Wire.be_length]
  have HQ3 := Lib.hid hq3
  clear hq3
  generalize Wire.be T 8 ++ Wire.be S 2 = L1 at *
  generalize hL2 : L1 ++ Wire.be D 4 = L2 at *
  generalize hL3 : L2 ++ Wire.be K 1 = L3 at *
  go_enter Tryd.func31, Tryd.ntmps31
  go_wp2_with fail
  generalize w.alloc (.cells #[.int .i64 (D : Int), .int .u64 (T : Int), .int .i64 (S : Int), .int .i64 (K : Int), .int .i64 a0, .int .i64 a1, .int .i64 a2, .int .i64 a3, .int .i64 a4, .int .i64 a5] 49) = W0 at *
  have hc0 := fun j => cell_of_row W0 w.heap.size j _ _ _ hrw
  have hb := hb.drew
  go_region_held3 (fun w' => w'.cell? ⟨w.heap.size, 0, none⟩ = some (.int .i64 (D : Int)) ∧ w'.cell? ⟨w.heap.size, 1, none⟩ = some (.int .u64 (T : Int)) ∧ w'.cell? ⟨w.heap.size, 2, none⟩ = some (.int .i64 (S : Int)) ∧ w'.cell? ⟨w.heap.size, 3, none⟩ = some (.int .i64 (K : Int)) ∧ w'.cell? ⟨w.heap.size, 4, none⟩ = some (.int .i64 a0) ∧ w'.cell? ⟨w.heap.size, 5, none⟩ = some (.int .i64 a1) ∧ w'.cell? ⟨w.heap.size, 6, none⟩ = some (.int .i64 a2) ∧ w'.cell? ⟨w.heap.size, 7, none⟩ = some (.int .i64 a3) ∧ w'.cell? ⟨w.heap.size, 8, none⟩ = some (.int .i64 a4) ∧ w'.cell? ⟨w.heap.size, 9, none⟩ = some (.int .i64 a5)) (first | exact ⟨cell_of_row _ _ 0 _ _ _ hrw, cell_of_row _ _ 1 _ _ _ hrw, cell_of_row _ _ 2 _ _ _ hrw, cell_of_row _ _ 3 _ _ _ hrw, cell_of_row _ _ 4 _ _ _ hrw, cell_of_row _ _ 5 _ _ _ hrw, cell_of_row _ _ 6 _ _ _ hrw, cell_of_row _ _ 7 _ _ _ hrw, cell_of_row _ _ 8 _ _ _ hrw, cell_of_row _ _ 9 _ _ _ hrw⟩ | go_keep) (first
    | (go_at_call 78; refine (put14_any w.heap.size _ _ K (by omega) 1 (by decide) hK hq2 _ hb.size ho2).mono ?_; rintro e w3 ⟨u3, rfl, ho3, hg3⟩; rw [hL3] at ho3; have hrw := row_put ho2 hg3 hrw (by decide); have hb := below_put hb hb.size ho2 hg3; obtain ⟨q3, c3, rfl⟩ := own_form ho3)
    | (go_at_call 78; refine (put14_any w.heap.size _ _ D (by omega) 4 (by decide) hD hq1 _ hb.size ho1).mono ?_; rintro e w2 ⟨u2, rfl, ho2, hg2⟩; rw [hL2] at ho2; have hrw := row_put ho1 hg2 hrw (by decide); have hb := below_put hb hb.size ho1 hg2; obtain ⟨q2, c2, rfl⟩ := own_form ho2)
    | (go_at_call 79; refine (HKEY.out _).mono ?_; rintro e w1 ⟨u1, rfl, ho1', hbk⟩; have ho1 := own_mono ho1' hb.size; have hrw : w1.heap[w.heap.size]? = _ := (hbk.block w.heap.size (by exact block_lt hrw)).trans hrw; have hb := hb.trans (hbk.mono hb.size); obtain ⟨q1, c1, rfl⟩ := own_form ho1))
  have HF := Lib.hid hb
  have HO := Lib.hid ho3
  have hcF := fun j => cell_of_row w3 w.heap.size j _ _ _ hrw
  clear hb ho1 ho2 ho3 hg2 hg3 hrw hc0
  have HAM := Lib.hid (fun W => rAmounts_any (D : Int) (T : Int) (S : Int) (K : Int) a0 a1 a2 a3 a4 a5 W)
  go_wp2_with fail
  refine (HAM.out _).mono ?_
  rintro e w4 ⟨ba, hba, rfl, hra, hb4⟩
  have HO4 := Lib.hid (own_below HO.out hb4)
  have HF4 := Lib.hid (HF.out.trans (hb4.mono HF.out.size))
  have HRA := Lib.hid hra
  clear hra hb4 hcF
  go_wp2_with fail
  obtain ⟨am, hamd⟩ : ∃ am, am = [a0, a1, a2, a3, a4, a5] := ⟨_, rfl⟩
  have HAD := Lib.hid hamd
  rw [← hamd] at HRA
  have hal : am.length = 6 := by rw [hamd]; rfl
  clear hamd
  have HAL := Lib.hid hal
  go_loopw [3, 5] (fun u i wr => ∃ j : Nat, j ≤ 6 ∧ i = .int .i64 j ∧ wr.ownsRow w.heap.size 5 1 u (L3 ++ encA (am.take j)).length (bytesV (L3 ++ encA (am.take j))) ∧ Below w.heap.size w wr ∧ wr.heap[ba]? = some (.cells (Post.amRow am) 2 (0, 0))) (fun _ i _ => 6 - (intOf i).toNat)
  case atStart => exact ⟨0, by omega, rfl, by rw [show L3 ++ encA (am.take 0) = L3 from by simp [encA]]; exact HO4.out, HF4.out, HRA.out⟩
  case round =>
    obtain ⟨j, hj, rfl, hown, hbw, hrow⟩ := hrel
    have HOW := Lib.hid hown
    have HBW := Lib.hid hbw
    have HROW := Lib.hid hrow
    obtain ⟨qj, cj, rfl⟩ := own_form hown
    clear hown hbw
    by_cases hlt : j < 6
    · have hcell : wr.cell? ⟨ba, j, none⟩ = some (.int .i64 (am.getD j 0)) := (cell_of_row wr ba j _ _ _ hrow).trans (Post.amRow_at (by omega))
      have htk : L3 ++ encA (am.take (j + 1)) = (L3 ++ encA (am.take j)) ++ Wire.be (u64 (am.getD j 0)) 8 := by
        have hx : am[j]? = some (am.getD j 0) := by rw [List.getD_eq_getElem?_getD, List.getElem?_eq_getElem (by omega)]; rfl
        rw [List.take_add_one, hx]
        unfold encA
        simp
      have hu := u64_eq (am.getD j 0)
      have hul := u64_lt (am.getD j 0)
      have hl8 : (L3 ++ encA (am.take j)).length ≤ 1000 := by
        have : (encA (am.take j)).length ≤ 48 := by
          have h2 : ∀ l : List Int, (encA l).length = 8 * l.length := by
            intro l
            induction l with
            | nil => rfl
            | cons a l ih => unfold encA at ih ⊢; rw [List.flatMap_cons, List.length_append, Wire.be_length, ih, List.length_cons]; omega
          rw [h2, List.length_take]; omega
        rw [List.length_append, HQ3.out]; omega
      generalize L3 ++ encA (am.take j) = LJ at *
      generalize am.getD j 0 = z at *
      generalize u64 z = Z at *
      have HTK := Lib.hid htk
      generalize hnn : LJ.length = nn at *
      have HNN := Lib.hid hnn
      clear htk hrow hnn
      have HP5 := Lib.hid (put14_any w.heap.size (.slice qj nn cj) LJ Z hul 8 (by decide) hul (by rw [HNN.out]; exact hl8) wr HBW.out.size (by rw [HNN.out]; exact HOW.out))
      generalize hn5 : (LJ ++ Wire.be Z 8).length = n5 at *
      have HN5 := Lib.hid hn5
      clear hn5
      go_wp2_with fail
      refine HP5.out.mono ?_
      rintro e w5 ⟨u5, rfl, ho5, hg5⟩
      have HO5 := Lib.hid ho5
      have HB5 := Lib.hid (below_put HBW.out HBW.out.size HOW.out hg5)
      have HR5 := Lib.hid (row_put HOW.out hg5 HROW.out (by decide))
      obtain ⟨q5, c5, rfl⟩ := own_form ho5
      clear ho5 hg5
      go_wp2
      go_roundw
      case rel => exact ⟨j + 1, by omega, by go_num, by rw [HTK.out, HN5.out]; exact HO5.out, HB5.out, HR5.out⟩
      case measure => simp [intOf]; omega
    · obtain rfl : j = 6 := by omega
      have hall : am.take 6 = am := List.take_of_length_le (by omega)
      have HFN : Hid (wr.ownsRow w.heap.size 5 1 (.slice qj (L3 ++ encA (am.take 6)).length cj) (L3 ++ encA [a0, a1, a2, a3, a4, a5]).length (bytesV (L3 ++ encA [a0, a1, a2, a3, a4, a5]))) := Lib.hid (by
        have h := HOW.out
        rw [← HAD.out]
        rw [hall] at h ⊢
        exact h)
      go_wp2
      go_ret
      exact ⟨_, rfl, HFN.out, HBW.out⟩
end Go.Proofs.YtellhmbebimenaaDoor
