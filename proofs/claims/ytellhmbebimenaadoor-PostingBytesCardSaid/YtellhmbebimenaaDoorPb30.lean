/- The wire chapter's rows (known), and small words on worlds. The writer's contracts where all has room. -/
import Derived.Test.YtellhmbebimenaaDoorPb29

section
set_option linter.unusedVariables false
set_option linter.unusedSimpArgs false
namespace Go.Proofs.YtellhmbebimenaaDoor
open Go.RowKit

theorem new_writer (w : World) : IsW (w.alloc (.cells #[.slice none 0 0, .int .i64 0, .bool false] 76 (0, 0))) w.heap.size w.heap.size 0 (some []) :=
  ⟨Nat.le_refl _, .slice none 0 0, [], [], new_rowW _ _ _ rfl, rfl, rfl, Nat.le_refl _, World.ownsRow_nil _ _ _ _, fun i x b h => by simp at h⟩
theorem i64_bdW {n : Int} (h : (Lit.int .i64 n).wf = true) : -9223372036854775808 ≤ n ∧ n ≤ 9223372036854775807 := by
  simpa [Lit.wf, IntKind.min, IntKind.max, IntKind.signed, IntKind.bits] using h
theorem u64_bdW {n : Int} (h : (Lit.int .u64 n).wf = true) : 0 ≤ n ∧ n ≤ 18446744073709551615 := by
  simpa [Lit.wf, IntKind.min, IntKind.max, IntKind.signed, IntKind.bits] using h
theorem ballocW {a w : World} (h : Below a.heap.size a w) (o : Obj) : Below a.heap.size a (w.alloc o) := h.alloc h.size o
theorem below_callW {a w w' : World} (h : Below a.heap.size a w) (hx : Below w.heap.size w w') : Below a.heap.size a w' := h.trans (hx.mono h.size)

def kn1 : List UInt8 := [0, 0, 1, 2]
def kn2 : List UInt8 := [0, 0, 1, 2, 255, 255, 255, 255, 255, 255, 255, 255]
def kn3 : List UInt8 := [0, 0, 1, 2, 255, 255, 255, 255, 255, 255, 255, 255, 0, 0, 0, 1, 7]
end Go.Proofs.YtellhmbebimenaaDoor
end

section
set_option linter.unusedVariables false
set_option linter.unusedSimpArgs false
namespace Go.Proofs.YtellhmbebimenaaDoor
open Go.RowKit

theorem IsW.drewE {w : World} {base bw k : Nat} {st : Option (List UInt8)} (h : IsW w base bw k st) : IsW w.drew base bw k st := h.below (Below.refl _ _).drew
theorem wnum_okE {L : List UInt8} {N k : Nat} (hk : k = 1 ∨ k = 2 ∨ k = 4 ∨ k = 8) (hN : N < 256 ^ k) : Wire.wNum (some L) N (k : Int) = some (L ++ Wire.be N k) := by
  unfold Wire.wNum
  rw [if_pos ⟨by rcases hk with rfl | rfl | rfl | rfl <;> rfl, by rw [Int.toNat_natCast]; exact hN⟩, Int.toNat_natCast]; rfl
theorem wint_okE {W : World} {base bw k : Nat} {L : List UInt8} (h : IsW W base bw k (some L)) (hk : k + 9 ≤ 536870912) (n : Int) :
    Calls Tryd.prog 64 #[.pointer (some ⟨bw, 0, none⟩), .int .i64 n] W fun e w' => e = .returned (.pointer (some ⟨bw, 0, none⟩)) ∧ WStep W w' base bw (k + 9) (some (L ++ Wire.be (u64 n) 8)) := by
  have := wint_any _ _ _ _ n hk W h
  rwa [show (8 : Int) = ((8 : Nat) : Int) from rfl, wnum_okE (by decide) (u64_lt n)] at this
theorem wnumber_okE {W : World} {base bw k : Nat} {L : List UInt8} (h : IsW W base bw k (some L)) (hk : k + 9 ≤ 536870912) (N : Nat) (s : Int) (hz : s = 1 ∨ s = 2 ∨ s = 4 ∨ s = 8) (hN : N < 256 ^ s.toNat) :
    Calls Tryd.prog 43 #[.pointer (some ⟨bw, 0, none⟩), .int .u64 (N : Int), .int .i64 s] W fun e w' => e = .returned (.pointer (some ⟨bw, 0, none⟩)) ∧ WStep W w' base bw (k + 9) (some (L ++ Wire.be N s.toNat)) := by
  obtain ⟨z, rfl⟩ := Int.eq_ofNat_of_zero_le (show 0 ≤ s by omega)
  rw [Int.toNat_natCast] at hN ⊢
  have hz' : z = 1 ∨ z = 2 ∨ z = 4 ∨ z = 8 := by omega
  have h256 : N < 18446744073709551616 := Nat.lt_of_lt_of_le hN (by rcases hz' with rfl | rfl | rfl | rfl <;> decide)
  have := wnumber_any _ _ _ _ N h256 (z : Int) hk W h
  rwa [wnum_okE hz' hN] at this
end Go.Proofs.YtellhmbebimenaaDoor
end
