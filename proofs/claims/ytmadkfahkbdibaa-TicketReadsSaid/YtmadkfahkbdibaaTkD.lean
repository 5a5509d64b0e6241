/- Contract: which taxes may be (ticket.mayTaxes). -/
import Derived.Test.YtmadkfahkbdibaaTkA
set_option linter.unusedVariables false
set_option linter.unusedSimpArgs false
namespace Go.Proofs.Ytmadkfahkbdibaa
open Go.RowKit

set_option maxRecDepth 4000 in
set_option maxHeartbeats 2000000 in
theorem tmayTaxes_any (l : List Txx) (p : Option Addr) (n cap : Nat) (w : World) (hs : LS Txx.cells 2 w (.slice p n cap) l) :
    Calls Try.prog 56 #[.slice p n cap] w fun e w' => e = .returned (.bool (Tkt.taxB 1 l && decide (l.length ≤ 4))) ∧ Below w.heap.size w w' := by
  have HPS := Lib.hid hs; have HN := Lib.hid hs.length.1
  have hn1 := hs.length.2.1
  have hn2 := hs.length.2.2
  unfold maxLen at hn2
  obtain ⟨bv, hbv⟩ : ∃ bv, (Tkt.taxB 1 l && decide (l.length ≤ 4)) = bv := ⟨_, rfl⟩
  rw [hbv]
  have HBV := Lib.hid hbv
  clear hs hbv
  go_enter Try.func56, Try.ntmps56
  go_wp2
  go_loopw [3, 8] (fun lv i wr => ∃ (k : Nat) (L : Int), k ≤ n ∧ i = .int .i64 k ∧ lv = .int .i64 L ∧ 1 ≤ L ∧ L ≤ 100 ∧ Tkt.taxB 1 l = Tkt.taxB L (l.drop k) ∧ Below w.heap.size w wr) (fun _ i _ => n - (intOf i).toNat)
  case atStart => exact ⟨0, 1, Nat.zero_le _, rfl, rfl, by omega, by omega, rfl, Below.refl _ _⟩
  case round =>
    obtain ⟨k, L, hk, rfl, rfl, hL1, hL2, hall, hbw⟩ := hrel
    have HALL := Lib.hid hall; have HBW := Lib.hid hbw
    clear hall
    by_cases hlt : k < n
    · obtain ⟨x, hx⟩ : ∃ x, l[k]? = some x := ⟨_, List.getElem?_eq_getElem (by have := HN.out; omega)⟩
      obtain ⟨bb, o, rfl, hbl, hr⟩ := (HPS.out.below hbw).at hx
      have HD : Hid (l.drop k = x :: l.drop (k + 1)) := Lib.hid (by
        obtain ⟨h1, h2⟩ := List.getElem?_eq_some_iff.1 hx
        rw [← h2]; exact List.drop_eq_getElem_cons h1)
      have c0 : wr.cell? ⟨bb, o + k * 2, none⟩ = some (.int .i64 x.cd) := hr 0 _ rfl
      have c1 : wr.cell? ⟨bb, o + k * 2 + 1, none⟩ = some (.int .i64 x.am) := hr 1 _ rfl
      obtain ⟨s, hs⟩ : ∃ s, Tkt.someB x.am = s := ⟨_, rfl⟩
      have HSM := Lib.hid (fun W => tsome_any x.am W)
      rw [hs] at HSM
      have HS := Lib.hid hs
      clear hx hr hbw hs
      have HB1 := Lib.hid (HBW.out.alloc HBW.out.size (.cells #[.int .i64 x.cd, .int .i64 x.am] 48 (0, 0)))
      by_cases h1 : x.cd < L
      · have HF : Hid (bv = false) := Lib.hid (by rw [← HBV.out, HALL.out, HD.out]; unfold Tkt.taxB; have : decide (L ≤ x.cd) = false := by simp; omega
                                                  simp [this])
        go_wp2_with fail
        go_ret
        exact ⟨ret_bool HF.out.symm, HB1.out⟩
      by_cases h2 : 99 < x.cd
      · have HF : Hid (bv = false) := Lib.hid (by rw [← HBV.out, HALL.out, HD.out]; unfold Tkt.taxB; have : decide (x.cd ≤ 99) = false := by simp; omega
                                                  simp [this])
        go_wp2_with fail
        go_ret
        exact ⟨ret_bool HF.out.symm, HB1.out⟩
      have h1' : L ≤ x.cd := by omega
      have h2' : x.cd ≤ 99 := by omega
      cases s
      · have HF : Hid (bv = false) := Lib.hid (by rw [← HBV.out, HALL.out, HD.out]; unfold Tkt.taxB; simp [HS.out])
        go_wp2_with (go_at_call 120; refine (HSM.out _).mono ?_; rintro e w1 ⟨rfl, rfl⟩)
        go_ret
        exact ⟨ret_bool HF.out.symm, HB1.out⟩
      · have HT : Hid (Tkt.taxB 1 l = Tkt.taxB (x.cd + 1) (l.drop (k + 1))) := Lib.hid (by rw [HALL.out, HD.out]; show (decide (L ≤ x.cd) && decide (x.cd ≤ 99) && Tkt.someB x.am && Tkt.taxB (x.cd + 1) (l.drop (k + 1))) = _; simp [HS.out, h1', h2'])
        go_wp2_with (go_at_call 120; refine (HSM.out _).mono ?_; rintro e w1 ⟨rfl, rfl⟩)
        go_roundw
        case rel => exact ⟨k + 1, x.cd + 1, by omega, by go_num, rfl, by omega, by omega, HT.out, HB1.out⟩
        case measure => simp [intOf]; omega
    · obtain rfl : k = n := by omega
      have HE : Hid (bv = decide ((k : Int) ≤ 4)) := Lib.hid (by
        rw [← HBV.out, HALL.out, List.drop_of_length_le (by have := HN.out; omega)]
        have h4 : Tkt.taxB L [] = true := rfl
        rw [h4, Bool.true_and, Bool.eq_iff_iff, decide_eq_true_iff, decide_eq_true_iff]
        have := HN.out
        omega)
      go_wp2
      go_ret
      exact ⟨ret_bool HE.out.symm, HBW.out⟩
end Go.Proofs.Ytmadkfahkbdibaa
