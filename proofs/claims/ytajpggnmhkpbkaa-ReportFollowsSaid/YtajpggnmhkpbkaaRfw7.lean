/- Contracts of the posting reference: Below, Above, Columns, Amounts, May. Contracts of the posting reference: Columns, Amounts, May. -/
import Derived.Test.YtajpggnmhkpbkaaRfw6

section
set_option linter.unusedSimpArgs false
set_option linter.unusedVariables false
namespace Go.Proofs.Ytajpggnmhkpbkaa
open Go.RowKit

/-- six bools in a new slice -/
def BoolRow (w0 : World) (l : List Bool) (e : Ending) (w' : World) : Prop :=
  ∃ b, w0.heap.size ≤ b ∧ e = .returned (.slice (some ⟨b, 0, none⟩) 6 6) ∧ (∀ j, j < 6 → w'.cell? ⟨b, j, none⟩ = some (.bool (l.getD j false))) ∧ Below w0.heap.size w0 w'

theorem six_cells {P : Nat → Prop} (h0 : P 0) (h1 : P 1) (h2 : P 2) (h3 : P 3) (h4 : P 4) (h5 : P 5) : ∀ j, j < 6 → P j := by
  intro j hj
  rcases (by omega : j = 0 ∨ j = 1 ∨ j = 2 ∨ j = 3 ∨ j = 4 ∨ j = 5) with rfl | rfl | rfl | rfl | rfl | rfl <;> assumption

theorem below6 (w : World) (o0 o1 o2 o3 o4 o5 : Obj) : Below w.heap.size w ((((((w.alloc o0).alloc o1).alloc o2).alloc o3).alloc o4).alloc o5) :=
  ((((((Below.refl _ _).alloc (Nat.le_refl _) _).alloc (by simp) _).alloc (by simp; omega) _).alloc (by simp; omega) _).alloc (by simp; omega) _).alloc (by simp; omega) _

set_option maxHeartbeats 1000000 in
theorem rBelow_any (k : Int) (k1 : 1 ≤ k) (k5 : k ≤ 5) (w : World) :
    Calls Try.prog 73 #[.int .i64 k] w (BoolRow w (Post.belowRow k)) := by
  rcases (by omega : k = 1 ∨ k = 2 ∨ k = 3 ∨ k = 4 ∨ k = 5) with rfl | rfl | rfl | rfl | rfl
  all_goals
    go_enter Try.func73, Try.ntmps73
    go_wp2
    go_ret
  · exact ⟨w.heap.size, by omega, rfl, six_cells (by go_simp; rfl) (by go_simp; rfl) (by go_simp; rfl) (by go_simp; rfl) (by go_simp; rfl) (by go_simp; rfl), below6 _ _ _ _ _ _ _⟩
  · exact ⟨w.heap.size + 1, by omega, rfl, six_cells (by go_simp; rfl) (by go_simp; rfl) (by go_simp; rfl) (by go_simp; rfl) (by go_simp; rfl) (by go_simp; rfl), below6 _ _ _ _ _ _ _⟩
  · exact ⟨w.heap.size + 1 + 1, by omega, rfl, six_cells (by go_simp; rfl) (by go_simp; rfl) (by go_simp; rfl) (by go_simp; rfl) (by go_simp; rfl) (by go_simp; rfl), below6 _ _ _ _ _ _ _⟩
  · exact ⟨w.heap.size + 1 + 1 + 1, by omega, rfl, six_cells (by go_simp; rfl) (by go_simp; rfl) (by go_simp; rfl) (by go_simp; rfl) (by go_simp; rfl) (by go_simp; rfl), below6 _ _ _ _ _ _ _⟩
  · exact ⟨w.heap.size + 1 + 1 + 1 + 1, by omega, rfl, six_cells (by go_simp; rfl) (by go_simp; rfl) (by go_simp; rfl) (by go_simp; rfl) (by go_simp; rfl) (by go_simp; rfl), below6 _ _ _ _ _ _ _⟩
set_option maxHeartbeats 1000000 in
theorem rAbove_any (k : Int) (k1 : 1 ≤ k) (k5 : k ≤ 5) (w : World) :
    Calls Try.prog 74 #[.int .i64 k] w (BoolRow w (Post.aboveRow k)) := by
  rcases (by omega : k = 1 ∨ k = 2 ∨ k = 3 ∨ k = 4 ∨ k = 5) with rfl | rfl | rfl | rfl | rfl
  all_goals
    go_enter Try.func74, Try.ntmps74
    go_wp2
    go_ret
  · exact ⟨w.heap.size, by omega, rfl, six_cells (by go_simp; rfl) (by go_simp; rfl) (by go_simp; rfl) (by go_simp; rfl) (by go_simp; rfl) (by go_simp; rfl), below6 _ _ _ _ _ _ _⟩
  · exact ⟨w.heap.size + 1, by omega, rfl, six_cells (by go_simp; rfl) (by go_simp; rfl) (by go_simp; rfl) (by go_simp; rfl) (by go_simp; rfl) (by go_simp; rfl), below6 _ _ _ _ _ _ _⟩
  · exact ⟨w.heap.size + 1 + 1, by omega, rfl, six_cells (by go_simp; rfl) (by go_simp; rfl) (by go_simp; rfl) (by go_simp; rfl) (by go_simp; rfl) (by go_simp; rfl), below6 _ _ _ _ _ _ _⟩
  · exact ⟨w.heap.size + 1 + 1 + 1, by omega, rfl, six_cells (by go_simp; rfl) (by go_simp; rfl) (by go_simp; rfl) (by go_simp; rfl) (by go_simp; rfl) (by go_simp; rfl), below6 _ _ _ _ _ _ _⟩
  · exact ⟨w.heap.size + 1 + 1 + 1 + 1, by omega, rfl, six_cells (by go_simp; rfl) (by go_simp; rfl) (by go_simp; rfl) (by go_simp; rfl) (by go_simp; rfl) (by go_simp; rfl), below6 _ _ _ _ _ _ _⟩

end Go.Proofs.Ytajpggnmhkpbkaa
end

section
set_option linter.unusedSimpArgs false
set_option linter.unusedVariables false
namespace Go.Proofs.Ytajpggnmhkpbkaa
open Go.RowKit

set_option maxHeartbeats 2000000 in
theorem rColumns_any (k : Int) (am : List Int) (c b off : Nat) (k1 : 1 ≤ k) (k5 : k ≤ 5) (hlen : am.length = 6) (hc : 6 ≤ c) (w : World) (hb : b < w.heap.size)
    (hz : ∀ i, i < 6 → w.cell? ⟨b, off + i, none⟩ = some (.int .i64 (am.getD i 0))) :
    Calls Try.prog 58 #[.int .i64 k, .slice (some ⟨b, off, none⟩) 6 c] w fun e w' => e = .returned (.bool (Post.cols k am)) ∧ Below w.heap.size w w' := by
  have HZ := Lib.hid hz; clear hz
  have HL := Lib.hid hlen; clear hlen
  have HT := Lib.hid (fun i hi n => Post.fit_tables k1 k5 i hi n)
  have HSL := Lib.hid (Post.signs_len k1 k5)
  have HC : Hid (Post.cols k am = (!(am.any (Post.outB 1125899906842624)) && Post.fitAll (Post.signs k) am && decide (Post.sum am = 0) && !(decide (k = 5) && decide (am.getD 0 0 ≠ 0) && decide (am.getD 5 0 ≠ 0)))) := Lib.hid rfl
  go_enter Try.func58, Try.ntmps58
  go_wp2
  go_loopw [5, 6] (fun sm i wr => ∃ (j : Nat) (x : Int), j ≤ 6 ∧ i = .int .i64 j ∧ sm = .int .i64 x ∧ -((j : Int) * 1125899906842624) ≤ x ∧ x ≤ (j : Int) * 1125899906842624 ∧ Below w.heap.size w wr ∧
      (Post.sum am = x + Post.sum (am.drop j) ∧ Post.fitAll (Post.signs k) am = Post.fitAll ((Post.signs k).drop j) (am.drop j) ∧ am.any (Post.outB 1125899906842624) = (am.drop j).any (Post.outB 1125899906842624)))
    (fun _ i _ => 6 - (intOf i).toNat)
  case atStart => exact ⟨0, 0, by omega, rfl, rfl, by omega, by omega, Below.refl _ _, by simp, rfl, rfl⟩
  case round =>
    obtain ⟨j, x, hj, rfl, rfl, hx1, hx2, hbw, hrest⟩ := hrel
    have HR := Lib.hid hrest; clear hrest
    have HCW := Lib.hid (bcell hbw).1
    have hsz := hbw.size
    have hbr : b < wr.heap.size := by omega
    by_cases hlt : j < 6
    · have hcj : wr.cell? ⟨b, off + j, none⟩ = some (.int .i64 (am.getD j 0)) := by rw [HCW.out b _ hb]; exact HZ.out j hlt
      have hdr : am.drop j = am.getD j 0 :: am.drop (j + 1) := by
        rw [List.drop_eq_getElem_cons (by have := HL.out; omega)]
        simp [List.getD_eq_getElem?_getD, List.getElem?_eq_getElem (show j < am.length by have := HL.out; omega)]
      have hds : (Post.signs k).drop j = (Post.signs k).getD j 0 :: (Post.signs k).drop (j + 1) := by
        rw [List.drop_eq_getElem_cons (by have := HSL.out; omega)]
        simp [List.getD_eq_getElem?_getD, List.getElem?_eq_getElem (show j < (Post.signs k).length by have := HSL.out; omega)]
      have hft := HT.out j hlt (am.getD j 0)
      have HDR := Lib.hid hdr; clear hdr
      have HDS := Lib.hid hds; clear hds
      generalize am.getD j 0 = z at *
      obtain ⟨bl, hbl⟩ : ∃ q, (Post.belowRow k).getD j false = q := ⟨_, rfl⟩
      obtain ⟨ab, hab⟩ : ∃ q, (Post.aboveRow k).getD j false = q := ⟨_, rfl⟩
      rw [hbl, hab] at hft
      have HF := Lib.hid hft; clear hft
      have HBL := Lib.hid hbl; clear hbl
      have HAB := Lib.hid hab; clear hab
      by_cases hout : z < -1125899906842624 ∨ 1125899906842624 < z
      · have ho : Post.outB 1125899906842624 z = true := by unfold Post.outB; simp; omega
        have HO : Hid (Post.cols k am = false) := Lib.hid (by rw [HC.out, HR.out.2.2, HDR.out, Post.any_step ho]; rfl)
        clear ho
        rcases hout with hout | hout
        all_goals
          go_wp2
          go_ret
          exact ⟨ret_bool HO.out.symm, hbw⟩
      · have ho : Post.outB 1125899906842624 z = false := by unfold Post.outB; simp; omega
        have hz1 : -1125899906842624 ≤ z := by omega
        have hz2 : z ≤ 1125899906842624 := by omega
        clear hout
        have HO := Lib.hid ho; clear ho
        have HNO : Hid (Post.fit ((Post.signs k).getD j 0) z = false → Post.cols k am = false) := Lib.hid (fun h => by rw [HC.out, HR.out.2.1, HDS.out, HDR.out, Post.fitAll_step h]; simp)
        have HYES : Hid (Post.fit ((Post.signs k).getD j 0) z = true → Post.sum am = (x + z) + Post.sum (am.drop (j + 1)) ∧ Post.fitAll (Post.signs k) am = Post.fitAll ((Post.signs k).drop (j + 1)) (am.drop (j + 1)) ∧ am.any (Post.outB 1125899906842624) = (am.drop (j + 1)).any (Post.outB 1125899906842624)) := Lib.hid (fun h => by
          refine ⟨?_, ?_, ?_⟩
          · rw [HR.out.1, HDR.out, Post.sum_cons]; omega
          · rw [HR.out.2.1, HDS.out, HDR.out, Post.fitAll_step h]; rfl
          · rw [HR.out.2.2, HDR.out, Post.any_step HO.out]; rfl)
        rcases (by omega : z < 0 ∨ z = 0 ∨ 0 < z) with hs | hs | hs
        · have hg : ¬ 0 < z := by omega
          cases bl
          · have HN := Lib.hid (HNO.out (by rw [HF.out]; simp [hs]))
            go_wp2_with fail
            refine (rBelow_any k k1 k5 _).mono ?_
            rintro e w1 ⟨g, hg1, rfl, hgc, hb1⟩
            have hgj := hgc j hlt
            rw [HBL.out] at hgj
            clear hgc
            go_wp2
            go_ret
            exact ⟨ret_bool HN.out.symm, hbw.trans (hb1.mono hbw.size)⟩
          · have HY := Lib.hid (HYES.out (by rw [HF.out]; simp; omega))
            go_wp2_with fail
            refine (rBelow_any k k1 k5 _).mono ?_
            rintro e w1 ⟨g, hg1, rfl, hgc, hb1⟩
            have hgj := hgc j hlt
            rw [HBL.out] at hgj
            have hc1 := (bcell hb1).1
            clear hgc
            have hb2 := hbw.trans (hb1.mono hbw.size)
            go_wp2
            go_roundw
            case rel => exact ⟨j + 1, x + z, by omega, by go_num, by go_num, by omega, by omega, hb2, HY.out⟩
            case measure => simp [intOf]; omega
        · subst hs
          have HY := Lib.hid (HYES.out (by rw [HF.out]; simp))
          go_wp2
          go_roundw
          case rel => exact ⟨j + 1, x + 0, by omega, by go_num, by go_num, by omega, by omega, hbw, HY.out⟩
          case measure => simp [intOf]; omega
        · have hg : ¬ z < 0 := by omega
          cases ab
          · have HN := Lib.hid (HNO.out (by rw [HF.out]; simp [hs]))
            go_wp2_with fail
            refine (rAbove_any k k1 k5 _).mono ?_
            rintro e w1 ⟨g, hg1, rfl, hgc, hb1⟩
            have hgj := hgc j hlt
            rw [HAB.out] at hgj
            clear hgc
            go_wp2
            go_ret
            exact ⟨ret_bool HN.out.symm, hbw.trans (hb1.mono hbw.size)⟩
          · have HY := Lib.hid (HYES.out (by rw [HF.out]; simp; omega))
            go_wp2_with fail
            refine (rAbove_any k k1 k5 _).mono ?_
            rintro e w1 ⟨g, hg1, rfl, hgc, hb1⟩
            have hgj := hgc j hlt
            rw [HAB.out] at hgj
            have hc1 := (bcell hb1).1
            clear hgc
            have hb2 := hbw.trans (hb1.mono hbw.size)
            go_wp2
            go_roundw
            case rel => exact ⟨j + 1, x + z, by omega, by go_num, by go_num, by omega, by omega, hb2, HY.out⟩
            case measure => simp [intOf]; omega
    · obtain rfl : j = 6 := by omega
      have hfin : Post.cols k am = (decide (x = 0) && !(decide (k = 5) && decide (am.getD 0 0 ≠ 0) && decide (am.getD 5 0 ≠ 0))) := by
        rw [HC.out, HR.out.1, HR.out.2.1, HR.out.2.2, List.drop_of_length_le (l := am) (by have := HL.out; omega), List.drop_of_length_le (l := Post.signs k) (by have := HSL.out; omega)]
        simp [Post.sum, Post.fitAll]
      have h0 : wr.cell? ⟨b, off, none⟩ = some (.int .i64 (am.getD 0 0)) := by rw [HCW.out b _ hb]; exact HZ.out 0 (by omega)
      have h5 : wr.cell? ⟨b, off + 5, none⟩ = some (.int .i64 (am.getD 5 0)) := by rw [HCW.out b _ hb]; exact HZ.out 5 (by omega)
      obtain ⟨q, hq⟩ : ∃ q, (k != 5) = q := ⟨_, rfl⟩
      rw [show decide (k = 5) = !q from by rw [← hq]; simp [bne]; rfl] at hfin
      generalize am.getD 0 0 = z0 at *
      generalize am.getD 5 0 = z5 at *
      have HFIN := Lib.hid hfin
      clear hfin HC HR HT HZ
      cases q
      all_goals
        go_wp2
      all_goals
        go_ret
        refine ⟨ret_bool ?_, hbw⟩
        rw [HFIN.out, Bool.eq_iff_iff]
        simp_all
        try omega

end Go.Proofs.Ytajpggnmhkpbkaa
end
