/- Contracts of the two Locator functions: which texts are locators. -/
import Derived.Test.YtbmphlpmipkpcaaGreatRsm4

set_option linter.unusedSimpArgs false
set_option linter.unusedVariables false
namespace Go.Proofs.YtbmphlpmipkpcaaGreat
open Go.RowKit

theorem iter_below (w : World) (s : ByteArray) (p : Nat) : Below w.heap.size w (w.iter s p) := (Below.refl _ _).alloc (Nat.le_refl _) _
theorem width_pos (s : ByteArray) (pos : Nat) (h : pos < s.size) : 1 ≤ (Utf8.decode s pos).2 := by
  by_cases ha : (s[pos]'h).toNat < 128
  · rw [decode_ascii s pos h ha]
    exact Nat.le_refl _
  · exact (decode_high s pos h (by omega)).2
theorem drop_step (s : ByteArray) (k : Nat) (h : k < s.size) : s.data.toList.drop k = s[k] :: s.data.toList.drop (k + 1) := by
  rw [List.drop_eq_getElem_cons (by simpa using h)]; rfl
theorem drop_end (s : ByteArray) (k : Nat) (h : ¬ k < s.size) : s.data.toList.drop k = [] := by
  apply List.drop_eq_nil_of_le; simp; omega

theorem all_step {l r : List UInt8} {c : UInt8} {b : Bool} (h : l = c :: r) (hb : Num.locByte c = b) : l.all Num.locByte = (b && r.all Num.locByte) := by rw [h, List.all_cons, hb]

def iv (c : Int) : Prop := c < 50 ∨ (50 ≤ c ∧ c ≤ 57) ∨ (57 < c ∧ c < 65) ∨ (65 ≤ c ∧ c ≤ 90) ∨ 90 < c
theorem iv_any (c : Int) : c < 50 ∨ (50 ≤ c ∧ c ≤ 57) ∨ (57 < c ∧ c < 65) ∨ (65 ≤ c ∧ c ≤ 90) ∨ 90 < c := by omega

set_option maxHeartbeats 400000 in
theorem refLocator_any (s : ByteArray) (w : World) (hs : s.size ≤ maxLen) :
    Calls Tryz.prog 124 #[.string s] w fun e w' => e = .returned (.bool (Num.loc s.data.toList)) ∧ w = w' := by
  unfold maxLen at hs
  go_enter Tryz.func124, Tryz.ntmps124
  go_wp2
  go_loop [3] (fun i => ∃ k : Nat, k ≤ s.size ∧ i = .int .i64 k ∧ s.data.toList.all Num.locByte = (s.data.toList.drop k).all Num.locByte) (fun i => s.size - (intOf i).toNat)
  case atStart => exact ⟨0, Nat.zero_le _, rfl, rfl⟩
  case round =>
    obtain ⟨k, hk, rfl, hall⟩ := hrel
    have HA := Lib.hid hall; clear hall
    by_cases hlt : k < s.size
    · have HD := Lib.hid (drop_step s k hlt)
      rcases iv_any (s[k].toNat : Int) with hb | ⟨hb, hb'⟩ | ⟨hb, hb'⟩ | ⟨hb, hb'⟩ | hb
      case inr.inl | inr.inr.inr.inl =>
        all_goals
          have HS := Lib.hid (all_step HD.out (Num.locByte_yes (by omega)))
          go_wp2
          go_round
          case rel => exact ⟨k + 1, by omega, by go_num, by rw [HA.out, HS.out]; rfl⟩
          case measure => simp [intOf]; omega
      all_goals
        have HS := Lib.hid (all_step HD.out (Num.locByte_no (by omega)))
        go_wp2
      all_goals first
        | (go_ret; exact ⟨ret_bool (by unfold Num.loc; rw [HA.out, HS.out]; rfl), rfl⟩)
        | (exfalso; simp only [Bool.not_eq_eq_eq_not, Bool.not_false, Bool.not_true, decide_eq_true_eq, decide_eq_false_iff_not] at *; omega)
    · have HD := Lib.hid (drop_end s k hlt)
      go_wp2
      go_ret
      refine ⟨ret_bool ?_, rfl⟩
      unfold Num.loc
      rw [HA.out, HD.out]
      rw [Bool.eq_iff_iff]; simp; omega

set_option maxHeartbeats 400000 in
theorem locator_any (s : ByteArray) (w : World) (hs : s.size ≤ maxLen) :
    Calls Tryz.prog 188 #[.string s] w fun e w' => e = .returned (.bool (Num.loc s.data.toList)) ∧ Below w.heap.size w w' := by
  unfold maxLen at hs
  go_enter Tryz.func188, Tryz.ntmps188
  go_wp2
  go_loopw [4] (fun _ w' => ∃ k : Nat, k ≤ s.size ∧ w' = w.iter s k ∧ s.data.toList.all Num.locByte = (s.data.toList.drop k).all Num.locByte) (fun _ w' => s.size - w'.iterPos w.heap.size)
  case atStart => exact ⟨0, Nat.zero_le _, rfl, rfl⟩
  case round =>
    obtain ⟨k, hk, rfl, hall⟩ := hrel
    have HA := Lib.hid hall; clear hall
    by_cases hlt : k < s.size
    · have HD := Lib.hid (drop_step s k hlt)
      by_cases ha : (s[k]'hlt).toNat < 128
      · have hnx : ∀ ty, (Instr.next (.pointer (some ⟨w.heap.size, 0, none⟩)) true ty).run Tryz.prog (w.iter s k) = _ := fun ty => run_next_ascii w s k ty hlt ha
        rcases iv_any (s[k].toNat : Int) with hb | ⟨hb, hb'⟩ | ⟨hb, hb'⟩ | ⟨hb, hb'⟩ | hb
        case inr.inl | inr.inr.inr.inl =>
          all_goals
            have HS := Lib.hid (all_step HD.out (Num.locByte_yes (by omega)))
            go_wp2
            go_roundw
            case rel => exact ⟨k + 1, by omega, rfl, by rw [HA.out, HS.out]; rfl⟩
            case measure => simp; omega
        all_goals
          have HS := Lib.hid (all_step HD.out (Num.locByte_no (by omega)))
          go_wp2
          go_ret
          exact ⟨ret_bool (by unfold Num.loc; rw [HA.out, HS.out]; rfl), iter_below _ _ _⟩
      · have hnx : ∀ ty, (Instr.next (.pointer (some ⟨w.heap.size, 0, none⟩)) true ty).run Tryz.prog (w.iter s k) = _ := fun ty => run_next_any w s k ty hlt
        have hh := (decode_high s k hlt (by omega)).1
        have HS := Lib.hid (all_step HD.out (Num.locByte_no (by omega)))
        go_wp2
        all_goals
          go_ret
          exact ⟨ret_bool (by unfold Num.loc; rw [HA.out, HS.out]; rfl), iter_below _ _ _⟩
    · have hnx : ∀ ty, (Instr.next (.pointer (some ⟨w.heap.size, 0, none⟩)) true ty).run Tryz.prog (w.iter s k) = _ := fun ty => run_next_end w s k ty hlt
      have HD := Lib.hid (drop_end s k hlt)
      go_wp2
      go_ret
      refine ⟨ret_bool ?_, iter_below _ _ _⟩
      unfold Num.loc
      rw [HA.out, HD.out]
      rw [Bool.eq_iff_iff]; simp; omega

end Go.Proofs.YtbmphlpmipkpcaaGreat
