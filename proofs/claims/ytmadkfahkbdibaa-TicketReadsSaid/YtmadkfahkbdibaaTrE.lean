/- Contracts: the reference's status (12): May, Letter, Leads, Last. -/
import Derived.Test.YtmadkfahkbdibaaTrC
import Derived.Deep.RegionWith
set_option linter.unusedVariables false
set_option linter.unusedSimpArgs false
namespace Go.Proofs.Ytmadkfahkbdibaa
open Go.RowKit

namespace Tkt
def rowsL : List ByteArray := [⟨#[79, 67, 69, 82, 86, 83, 65]⟩, ⟨#[67, 79, 76]⟩, ⟨#[76, 67, 70]⟩, ⟨#[70]⟩, ⟨#[69]⟩, ⟨#[82]⟩, ⟨#[86]⟩, ⟨#[83, 79, 82]⟩, ⟨#[65, 79, 70]⟩]
def rowS (k : Nat) : ByteArray := rowsL.getD k ⟨#[]⟩
def hasB (a b : Nat) : Bool := (List.range 7).any fun j => decide (1 ≤ j) && decide (j < (rowS a).size) && (((rowS a).extract j (j + 1)).data.toList == ((rowS b).extract 0 1).data.toList)
theorem leads_has : ∀ a : Fin 9, ∀ b : Fin 9, leadsB (((a : Nat) : Int) + 1) (((b : Nat) : Int) + 1) = hasB a b := by decide +kernel
theorem row_size : ∀ a : Fin 9, 1 ≤ (rowS a).size ∧ (rowS a).size ≤ 7 := by decide +kernel
theorem last_has : ∀ a : Fin 9, lastB (((a : Nat) : Int) + 1) = decide ((rowS a).size = 1) := by decide +kernel
def rowsA : Array Value := (rowsL.map Value.string).toArray
theorem rowsA_at (k : Nat) (h : k < 9) : rowsA[k]? = some (.string (rowS k)) := by
  unfold rowsA rowS
  rw [List.getElem?_toArray, List.getElem?_map, List.getD_eq_getElem?_getD, List.getElem?_eq_getElem (by simpa [rowsL] using h)]
  rfl
end Tkt
theorem may12_any (n : Int) (w : World) : Calls Try.prog 66 #[.int .i64 n] w fun e w' => e = .returned (.bool (Tkt.stB n)) ∧ w = w' := by
  go_enter Try.func66, Try.ntmps66
  go_wp2
  all_goals
    go_ret
    refine ⟨ret_bool ?_, rfl⟩
    unfold Tkt.stB
    simp; omega
theorem rows12_any (w : World) : Calls Try.prog 67 #[] w fun e w' => e = .returned (.slice (some ⟨w.heap.size, 0, none⟩) 9 9) ∧ w' = w.alloc (.cells Tkt.rowsA 9 (0, 0)) := by
  go_enter Try.func67, Try.ntmps67
  go_wp2
  go_ret
  exact ⟨rfl, rfl⟩
set_option maxHeartbeats 1000000 in
theorem letter12_any (k : Nat) (hk : k < 9) (w : World) : Calls Try.prog 118 #[.int .i64 ((k : Int) + 1)] w fun e w' => e = .returned (.string ((Tkt.rowS k).extract 0 1)) ∧ Below w.heap.size w w' := by
  have hst : Tkt.stB ((k : Int) + 1) = true := by unfold Tkt.stB; simp; omega
  have HMY := Lib.hid (fun W => hst ▸ may12_any ((k : Int) + 1) W)
  have hsz := (Tkt.row_size ⟨k, hk⟩).1
  have hsz1 : (1 : Int) ≤ (Tkt.rowS k).size := by simp only at hsz; omega
  have hwr : IntKind.i64.wrap ((k : Int) + 1 - 1) = k := by rw [IntKind.wrap_i64]; omega
  have hcell : (w.alloc (.cells Tkt.rowsA 9 (0, 0))).cell? ⟨w.heap.size, k, none⟩ = some (.string (Tkt.rowS k)) := (cell_of_row _ _ k _ _ _ (new_rowW w _ _ rfl)).trans (Tkt.rowsA_at k hk)
  have hb : Below w.heap.size w (w.alloc (.cells Tkt.rowsA 9 (0, 0))) := (Below.refl _ _).alloc (Nat.le_refl _) _
  have HB := Lib.hid hb
  have HRS := Lib.hid (rows12_any w)
  generalize (w.alloc (.cells Tkt.rowsA 9 (0, 0))) = w1 at *
  generalize Tkt.rowS k = S at *
  clear hst hb hsz
  go_enter Try.func118, Try.ntmps118
  go_wp2_with (first | (go_at_call 66; refine (HMY.out _).mono ?_; rintro e w' ⟨rfl, rfl⟩) | (go_at_call 67; refine HRS.out.mono ?_; rintro e w' ⟨rfl, rfl⟩))
  go_ret
  exact ⟨rfl, HB.out⟩
set_option maxHeartbeats 1000000 in
theorem last12_any (n : Int) (w : World) : Calls Try.prog 19 #[.int .i64 n] w fun e w' => e = .returned (.bool (Tkt.lastB n)) ∧ Below w.heap.size w w' := by
  have HMY := Lib.hid (fun W => may12_any n W)
  by_cases hs : Tkt.stB n = true
  · rw [hs] at HMY
    have hn : 1 ≤ n ∧ n ≤ 9 := by unfold Tkt.stB at hs; simpa using hs
    obtain ⟨k, rfl⟩ : ∃ k : Nat, n = (k : Int) + 1 := ⟨(n - 1).toNat, by omega⟩
    have hk : k < 9 := by omega
    have hl := Tkt.last_has ⟨k, hk⟩
    simp only at hl
    rw [hl]
    have hsz := (Tkt.row_size ⟨k, hk⟩).2
    have hwr : IntKind.i64.wrap ((k : Int) + 1 - 1) = k := by rw [IntKind.wrap_i64]; omega
    have hcell : (w.alloc (.cells Tkt.rowsA 9 (0, 0))).cell? ⟨w.heap.size, k, none⟩ = some (.string (Tkt.rowS k)) := (cell_of_row _ _ k _ _ _ (new_rowW w _ _ rfl)).trans (Tkt.rowsA_at k hk)
    have hb : Below w.heap.size w (w.alloc (.cells Tkt.rowsA 9 (0, 0))) := (Below.refl _ _).alloc (Nat.le_refl _) _
    have HB := Lib.hid hb
    have HRS := Lib.hid (rows12_any w)
    generalize (w.alloc (.cells Tkt.rowsA 9 (0, 0))) = w1 at *
    simp only at hsz
    generalize Tkt.rowS k = S at *
    clear hs hb hl
    go_enter Try.func19, Try.ntmps19
    go_wp2_with (first | (go_at_call 66; refine (HMY.out _).mono ?_; rintro e w' ⟨rfl, rfl⟩) | (go_at_call 67; refine HRS.out.mono ?_; rintro e w' ⟨rfl, rfl⟩))
    all_goals
      go_ret
      refine ⟨ret_bool ?_, HB.out⟩
      rw [Bool.eq_iff_iff]
      simp
      try omega
  · have hs' : Tkt.stB n = false := by simpa using hs
    rw [hs'] at HMY
    have hl : Tkt.lastB n = false := by unfold Tkt.lastB; rw [hs', Bool.false_and]
    rw [hl]
    clear hs hs' hl
    go_enter Try.func19, Try.ntmps19
    go_wp2_with (first | (go_at_call 66; refine (HMY.out _).mono ?_; rintro e w' ⟨rfl, rfl⟩))
    go_ret
    exact ⟨rfl, Below.refl _ _⟩
set_option maxRecDepth 4000 in
set_option maxHeartbeats 2000000 in
theorem leads12_any (a b : Int) (w : World) : Calls Try.prog 54 #[.int .i64 a, .int .i64 b] w fun e w' => e = .returned (.bool (Tkt.leadsB a b)) ∧ Below w.heap.size w w' := by
  have HMA := Lib.hid (fun W => may12_any a W)
  have HMB := Lib.hid (fun W => may12_any b W)
  by_cases hsa : Tkt.stB a = true
  · by_cases hsb : Tkt.stB b = true
    · have ha : 1 ≤ a ∧ a ≤ 9 := by unfold Tkt.stB at hsa; simpa using hsa
      have hb : 1 ≤ b ∧ b ≤ 9 := by unfold Tkt.stB at hsb; simpa using hsb
      rw [hsa] at HMA
      rw [hsb] at HMB
      obtain ⟨ka, rfl⟩ : ∃ k : Nat, a = (k : Int) + 1 := ⟨(a - 1).toNat, by omega⟩
      obtain ⟨kb, rfl⟩ : ∃ k : Nat, b = (k : Int) + 1 := ⟨(b - 1).toNat, by omega⟩
      have hka : ka < 9 := by omega
      have hkb : kb < 9 := by omega
      have hl := Tkt.leads_has ⟨ka, hka⟩ ⟨kb, hkb⟩
      simp only at hl
      rw [hl]
      have HLT := Lib.hid (fun W => letter12_any kb hkb W)
      have hsz := Tkt.row_size ⟨ka, hka⟩
      simp only at hsz
      have hwr : IntKind.i64.wrap ((ka : Int) + 1 - 1) = ka := by rw [IntKind.wrap_i64]; omega
      have hcell : (w.alloc (.cells Tkt.rowsA 9 (0, 0))).cell? ⟨w.heap.size, ka, none⟩ = some (.string (Tkt.rowS ka)) := (cell_of_row _ _ ka _ _ _ (new_rowW w _ _ rfl)).trans (Tkt.rowsA_at ka hka)
      have hb1 : Below w.heap.size w (w.alloc (.cells Tkt.rowsA 9 (0, 0))) := (Below.refl _ _).alloc (Nat.le_refl _) _
      have HB := Lib.hid hb1
      have HRS := Lib.hid (rows12_any w)
      have HAS : Hid (Tkt.hasB ka kb = _) := Lib.hid (by unfold Tkt.hasB; rfl)
      generalize (w.alloc (.cells Tkt.rowsA 9 (0, 0))) = w1 at *
      generalize Tkt.hasB ka kb = bv at *
      generalize Tkt.rowS ka = S at *
      generalize (Tkt.rowS kb).extract 0 1 = L at *
      obtain ⟨n, hn⟩ : ∃ n, S.size = n := ⟨_, rfl⟩
      have HN := Lib.hid hn
      rw [hn] at hsz
      obtain ⟨hs1, hs7⟩ := hsz
      clear hsa hsb ha hb hl hb1
      go_enter Try.func54, Try.ntmps54
      go_wp2_with (first | (go_at_call 66; (first | (with_reducible refine (HMA.out _).mono ?_) | (with_reducible refine (HMB.out _).mono ?_)); rintro e w' ⟨rfl, rfl⟩) | (go_at_call 67; refine HRS.out.mono ?_; rintro e w' ⟨rfl, rfl⟩))
      go_loopw [6] (fun i wr => ∃ k : Nat, 1 ≤ k ∧ k ≤ n ∧ i = .int .i64 k ∧ Below w.heap.size w wr ∧ ∀ j, 1 ≤ j → j < k → ((S.extract j (j + 1)).data.toList == L.data.toList) = false) (fun i _ => n - (intOf i).toNat)
      case atStart => exact ⟨1, Nat.le_refl _, hs1, rfl, HB.out, fun j h1 h2 => absurd h2 (by omega)⟩
      case round =>
        obtain ⟨k, hk1, hk, rfl, hbw, hall⟩ := hrel
        have HBW := Lib.hid hbw; have HALL := Lib.hid hall
        clear hbw hall hcell
        by_cases hlt : k < n
        · obtain ⟨q, hq⟩ : ∃ q, ((S.extract k (k + 1)).toList == L.toList) = q := ⟨_, rfl⟩
          have HQ : Hid (((S.extract k (k + 1)).data.toList == L.data.toList) = q) := Lib.hid (by rw [← ByteArray.toList_eq, ← ByteArray.toList_eq]; exact hq)
          have hkw : IntKind.i64.wrap ((k : Int) + 1) = ((k + 1 : Nat) : Int) := by rw [IntKind.wrap_i64]; omega
          go_wp2_with fail
          go_region_with (go_at_call 118; refine (HLT.out _).mono ?_; rintro e wl ⟨rfl, hbl⟩; have HBL := Lib.hid (HBW.out.trans (Below.mono ((Below.refl _ _).drew.trans hbl) HBW.out.size)); clear hbl)
          all_goals
            cases q
            · go_wp2_with fail
              go_roundw
              case rel =>
                refine ⟨k + 1, by omega, by omega, by go_num, HBL.out, fun j h1 h2 => ?_⟩
                rcases Nat.lt_or_ge j k with h | h
                · exact HALL.out j h1 h
                · obtain rfl : j = k := by omega
                  exact HQ.out
              case measure => simp [intOf]; omega
            · have HF : Hid (bv = true) := Lib.hid (by
                rw [HAS.out, List.any_eq_true]
                refine ⟨k, List.mem_range.2 (by omega), ?_⟩
                rw [HQ.out, decide_eq_true hk1, decide_eq_true (by omega : k < S.size)]
                rfl)
              go_wp2_with fail
              go_ret
              exact ⟨ret_bool HF.out.symm, HBL.out⟩
        · obtain rfl : n = k := by omega
          have HF : Hid (bv = false) := Lib.hid (by
            rw [HAS.out, List.any_eq_false]
            intro j hj hq
            simp only [Bool.and_eq_true, decide_eq_true_eq] at hq
            have := HALL.out j hq.1.1 (by have := hq.1.2; omega)
            rw [hq.2] at this
            cases this)
          go_wp2
          go_ret
          exact ⟨ret_bool HF.out.symm, HBW.out⟩
    · have hs' : Tkt.stB b = false := by simpa using hsb
      rw [hs'] at HMB
      rw [hsa] at HMA
      have hl : Tkt.leadsB a b = false := by unfold Tkt.leadsB; rw [hs', Bool.false_and]
      rw [hl]
      clear hsa hsb hs' hl
      go_enter Try.func54, Try.ntmps54
      go_wp2_with (first | (go_at_call 66; (first | (with_reducible refine (HMA.out _).mono ?_) | (with_reducible refine (HMB.out _).mono ?_)); rintro e w' ⟨rfl, rfl⟩))
      go_ret
      exact ⟨rfl, Below.refl _ _⟩
  · have hs' : Tkt.stB a = false := by simpa using hsa
    rw [hs'] at HMA
    have hl : Tkt.leadsB a b = false := by
      have h0 : Tkt.bitsI a = 0 := by
        unfold Tkt.stB at hs'
        unfold Tkt.bitsI
        simp at hs'
        repeat' split
        all_goals omega
      unfold Tkt.leadsB
      rw [h0]
      simp
    rw [hl]
    clear hsa hs' hl
    go_enter Try.func54, Try.ntmps54
    go_wp2_with (first | (go_at_call 66; (first | (with_reducible refine (HMA.out _).mono ?_) | (with_reducible refine (HMB.out _).mono ?_)); rintro e w' ⟨rfl, rfl⟩))
    go_ret
    exact ⟨rfl, Below.refl _ _⟩
end Go.Proofs.Ytmadkfahkbdibaa
