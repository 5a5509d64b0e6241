/- The writer's contracts where all has room. -/
import Derived.Test.YtfpcpnjegbmdbaaListA
set_option linter.unusedVariables false
set_option linter.unusedSimpArgs false
namespace Go.Proofs.Ytfpcpnjegbmdbaa
open Go.RowKit

theorem IsW.drew {w : World} {base bw k : Nat} {st : Option (List UInt8)} (h : IsW w base bw k st) : IsW w.drew base bw k st := h.below (Below.refl _ _).drew
theorem wint_ok {W : World} {base bw k : Nat} {L : List UInt8} (h : IsW W base bw k (some L)) (hk : k + 9 ≤ 536870912) (n : Int) :
    Calls Try.prog 38 #[.pointer (some ⟨bw, 0, none⟩), .int .i64 n] W fun e w' => e = .returned (.pointer (some ⟨bw, 0, none⟩)) ∧ WStep W w' base bw (k + 9) (some (L ++ Wire.be (u64 n) 8)) := by
  have := wint_any _ _ _ _ n hk W h
  rwa [show (8 : Int) = ((8 : Nat) : Int) from rfl, wnum_ok (by decide) (u64_lt n)] at this
theorem wnumber_ok {W : World} {base bw k : Nat} {L : List UInt8} (h : IsW W base bw k (some L)) (hk : k + 9 ≤ 536870912) (N z : Nat) (hz : z = 1 ∨ z = 2 ∨ z = 4 ∨ z = 8) (hN : N < 256 ^ z) :
    Calls Try.prog 21 #[.pointer (some ⟨bw, 0, none⟩), .int .u64 (N : Int), .int .i64 (z : Int)] W fun e w' => e = .returned (.pointer (some ⟨bw, 0, none⟩)) ∧ WStep W w' base bw (k + 9) (some (L ++ Wire.be N z)) := by
  have h256 : N < 18446744073709551616 := Nat.lt_of_lt_of_le hN (by rcases hz with rfl | rfl | rfl | rfl <;> decide)
  have := wnumber_any _ _ _ _ N h256 (z : Int) hk W h
  rwa [wnum_ok hz hN] at this
theorem wnumber_okz {W : World} {base bw k : Nat} {L : List UInt8} (h : IsW W base bw k (some L)) (hk : k + 9 ≤ 536870912) (N : Nat) (s : Int) (hz : s = 1 ∨ s = 2 ∨ s = 4 ∨ s = 8) (hN : N < 256 ^ s.toNat) :
    Calls Try.prog 21 #[.pointer (some ⟨bw, 0, none⟩), .int .u64 (N : Int), .int .i64 s] W fun e w' => e = .returned (.pointer (some ⟨bw, 0, none⟩)) ∧ WStep W w' base bw (k + 9) (some (L ++ Wire.be N s.toNat)) := by
  obtain ⟨z, rfl⟩ := Int.eq_ofNat_of_zero_le (show 0 ≤ s by omega)
  exact wnumber_ok h hk N z (by omega) hN
theorem wflag_ok {W : World} {base bw k : Nat} {L : List UInt8} (h : IsW W base bw k (some L)) (hk : k + 9 ≤ 536870912) (q : Bool) :
    Calls Try.prog 39 #[.pointer (some ⟨bw, 0, none⟩), .bool q] W fun e w' => e = .returned (.pointer (some ⟨bw, 0, none⟩)) ∧ WStep W w' base bw (k + 9) (some (L ++ Wire.be (if q then 1 else 0) 1)) := by
  have := wflag_any _ _ _ _ q hk W h
  rwa [show (1 : Int) = ((1 : Nat) : Int) from rfl, wnum_ok (by decide) (by split <;> decide)] at this
theorem wtext_ok {W : World} {base bw k : Nat} {L : List UInt8} (h : IsW W base bw k (some L)) (S : ByteArray) (hS : S.size ≤ 300) (hk : k + 310 ≤ 536870912) :
    Calls Try.prog 40 #[.pointer (some ⟨bw, 0, none⟩), .string S] W fun e w' => e = .returned (.pointer (some ⟨bw, 0, none⟩)) ∧ WStep W w' base bw (k + 310) (some (L ++ encB (bytesOf S))) := by
  have := wtext_any _ _ _ _ S (by omega) W h
  rw [wblob_ok (by show (bytesOf S).length ≤ _; rw [bytesOf_length]; omega)] at this
  exact this.mono fun e w' h => ⟨h.1, h.2.mono (by omega)⟩
end Go.Proofs.Ytfpcpnjegbmdbaa
