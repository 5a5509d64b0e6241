/- Contracts of package number's leaf functions: Check, mayCarrier, maySerial, Make. Contracts of the two Locator functions: which texts are locators. -/
import Derived.Test.YtajpggnmhkpbkaaRows
import Derived.Test.YtajpggnmhkpbkaaRfw1
import Derived.WalkKit
import Derived.WalkSpells
import Derived.WalkLawsBesides
import Derived.Deep.QuietTactic
import Derived.BigQuiet
import Derived.Lib.Hide

section
namespace Go.Proofs.Ytajpggnmhkpbkaa
open Go.RowKit

theorem ret_int {k : IntKind} {a b : Int} (h : a = b) : Ending.returned (.int k a) = .returned (.int k b) := by rw [h]
theorem ret_bool {a b : Bool} (h : a = b) : Ending.returned (.bool a) = .returned (.bool b) := by rw [h]

set_option maxHeartbeats 400000 in
theorem mayCarrier_any (c : Int) (w : World) :
    Calls Try.prog 25 #[.int .i64 c] w fun e w' => e = .returned (.bool (Num.mayC c)) ∧ w = w' := by
  go_enter Try.func25, Try.ntmps25
  go_wp2
  all_goals
    go_ret
    refine ⟨ret_bool ?_, rfl⟩
    unfold Num.mayC
    simp; omega

set_option maxHeartbeats 400000 in
theorem maySerial_any (c : Int) (w : World) :
    Calls Try.prog 26 #[.int .i64 c] w fun e w' => e = .returned (.bool (Num.mayS c)) ∧ w = w' := by
  go_enter Try.func26, Try.ntmps26
  go_wp2
  all_goals
    go_ret
    refine ⟨ret_bool ?_, rfl⟩
    unfold Num.mayS
    simp; omega

set_option maxHeartbeats 400000 in
theorem check_any (n : Int) (h0 : 0 ≤ n) (hb : n ≤ 18446744073709551615) (w : World) :
    Calls Try.prog 30 #[.int .u64 n] w fun e w' => e = .returned (.int .i64 (Num.check n)) ∧ w = w' := by
  go_enter Try.func30, Try.ntmps30
  go_wp2
  all_goals
    go_ret
    refine ⟨ret_int ?_, rfl⟩
    unfold Num.check
    simp_all
    try omega

theorem ret_pair {k k' : IntKind} {a b c d : Int} (h : a = b) (h' : c = d) : Ending.returned (.tuple #[.int k a, .int k' c]) = .returned (.tuple #[.int k b, .int k' d]) := by rw [h, h']

set_option maxHeartbeats 400000 in
theorem make_any (c s : Int) (w : World) :
    Calls Try.prog 24 #[.int .i64 c, .int .i64 s] w fun e w' => e = .returned (.tuple #[.int .u64 (Num.mkN c s), .int .i64 (Num.mkE c s)]) ∧ w = w' := by
  by_cases h : (Num.mayC c && Num.mayS s) = true
  · have h1 : Num.mkN c s = Num.make c s := by unfold Num.mkN; rw [if_pos h]
    have h2 : Num.mkE c s = 0 := by unfold Num.mkE; rw [if_pos h]
    rw [h1, h2]; clear h1 h2
    rw [Bool.and_eq_true] at h
    obtain ⟨hc, hs⟩ := h
    have bc := Num.mayC_iff.1 hc
    have bs := Num.mayS_iff.1 hs
    go_enter Try.func24, Try.ntmps24
    go_wp2_with (first | (go_at_call 25; refine (mayCarrier_any _ _).mono ?_; rintro e w' ⟨rfl, rfl⟩) | (go_at_call 26; refine (maySerial_any _ _).mono ?_; rintro e w' ⟨rfl, rfl⟩))
    go_ret2
    refine ⟨ret_pair ?_ rfl, rfl⟩
    unfold Num.make Num.body
    omega
  · have h1 : Num.mkN c s = 0 := by unfold Num.mkN; rw [if_neg h]
    have h2 : Num.mkE c s = 2 := by unfold Num.mkE; rw [if_neg h]
    rw [h1, h2]; clear h1 h2
    have H := Lib.hid h; clear h
    go_enter Try.func24, Try.ntmps24
    go_wp2_with (first | (go_at_call 25; refine (mayCarrier_any _ _).mono ?_; rintro e w' ⟨rfl, rfl⟩) | (go_at_call 26; refine (maySerial_any _ _).mono ?_; rintro e w' ⟨rfl, rfl⟩))
    · go_ret2
      exact ⟨rfl, rfl⟩
    · exact absurd (by simp_all) H.out
    · go_ret2
      exact ⟨rfl, rfl⟩

set_option maxHeartbeats 400000 in
theorem parts_any (n : Int) (h0 : 0 ≤ n) (hb : n ≤ 18446744073709551615) (w : World) :
    Calls Try.prog 27 #[.int .u64 n] w fun e w' => e = .returned (.tuple #[.int .i64 (Num.carr n), .int .i64 (Num.seri n)]) ∧ w = w' := by
  go_enter Try.func27, Try.ntmps27
  go_wp2_with (first | (go_at_call 30; refine (check_any _ (by omega) (by omega) _).mono ?_; rintro e w' ⟨rfl, rfl⟩))
  all_goals
    go_ret2
    refine ⟨ret_pair ?_ ?_, rfl⟩
  all_goals
    first | unfold Num.carr | unfold Num.seri
    simp_all

set_option maxHeartbeats 400000 in
theorem known_any (w : World) :
    Calls Try.prog 12 #[] w fun e w' => e = .returned (.bool true) ∧ w = w' := by
  have k1 : Num.mkN 123 1 = 1230000000014 := by decide
  have k2 : Num.mkE 123 1 = 0 := by decide
  have k3 : Num.check 1230000000013 = 11 := by decide
  go_enter Try.func12, Try.ntmps12
  go_wp2_with (first | (go_at_call 24; refine (make_any _ _ _).mono ?_; rintro e w' ⟨rfl, rfl⟩) | (go_at_call 30; refine (check_any _ (by omega) (by omega) _).mono ?_; rintro e w' ⟨rfl, rfl⟩))
  go_ret
  exact ⟨rfl, rfl⟩

end Go.Proofs.Ytajpggnmhkpbkaa
end

section
set_option linter.unusedSimpArgs false
set_option linter.unusedVariables false
namespace Go.Proofs.Ytajpggnmhkpbkaa
open Go.RowKit

theorem iter_below (w : World) (s : ByteArray) (p : Nat) : Below w.heap.size w (w.iter s p) := (Below.refl _ _).alloc (Nat.le_refl _) _
theorem width_pos (s : ByteArray) (pos : Nat) (h : pos < s.size) : 1 ≤ (Utf8.decode s pos).2 := by
  by_cases ha : (s[pos]'h).toNat < 128
  · rw [decode_ascii s pos h ha]
    exact Nat.le_refl _
  · exact (decode_high s pos h (by omega)).2
theorem drop_step (s : ByteArray) (k : Nat) (h : k < s.size) : s.data.toList.drop k = s[k] :: s.data.toList.drop (k + 1) := by
  rw [List.drop_eq_getElem_cons (by simpa using h)]; rfl
theorem drop_end (s : ByteArray) (k : Nat) (h : ¬ k < s.size) : s.data.toList.drop k = [] := by
  apply List.drop_eq_nil_of_le; simp; omega

theorem all_step {l r : List UInt8} {c : UInt8} {b : Bool} (h : l = c :: r) (hb : Num.locByte c = b) : l.all Num.locByte = (b && r.all Num.locByte) := by rw [h, List.all_cons, hb]

def iv (c : Int) : Prop := c < 50 ∨ (50 ≤ c ∧ c ≤ 57) ∨ (57 < c ∧ c < 65) ∨ (65 ≤ c ∧ c ≤ 90) ∨ 90 < c
theorem iv_any (c : Int) : c < 50 ∨ (50 ≤ c ∧ c ≤ 57) ∨ (57 < c ∧ c < 65) ∨ (65 ≤ c ∧ c ≤ 90) ∨ 90 < c := by omega

end Go.Proofs.Ytajpggnmhkpbkaa
end
