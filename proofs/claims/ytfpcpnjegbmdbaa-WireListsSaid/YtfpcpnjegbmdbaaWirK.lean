/- The wire chapter's rows (known), and small words on worlds. -/
import Derived.Test.YtfpcpnjegbmdbaaWirD
set_option linter.unusedVariables false
set_option linter.unusedSimpArgs false
namespace Go.Proofs.Ytfpcpnjegbmdbaa
open Go.RowKit

theorem new_writer (w : World) : IsW (w.alloc (.cells #[.slice none 0 0, .int .i64 0, .bool false] 28 (0, 0))) w.heap.size w.heap.size 0 (some []) :=
  ⟨Nat.le_refl _, .slice none 0 0, [], [], new_rowW _ _ _ rfl, rfl, rfl, Nat.le_refl _, World.ownsRow_nil _ _ _ _, fun i x b h => by simp at h⟩
theorem i64_bdW {n : Int} (h : (Lit.int .i64 n).wf = true) : -9223372036854775808 ≤ n ∧ n ≤ 9223372036854775807 := by
  simpa [Lit.wf, IntKind.min, IntKind.max, IntKind.signed, IntKind.bits] using h
theorem u64_bdW {n : Int} (h : (Lit.int .u64 n).wf = true) : 0 ≤ n ∧ n ≤ 18446744073709551615 := by
  simpa [Lit.wf, IntKind.min, IntKind.max, IntKind.signed, IntKind.bits] using h
theorem ballocW {a w : World} (h : Below a.heap.size a w) (o : Obj) : Below a.heap.size a (w.alloc o) := h.alloc h.size o
theorem below_callW {a w w' : World} (h : Below a.heap.size a w) (hx : Below w.heap.size w w') : Below a.heap.size a w' := h.trans (hx.mono h.size)

def kn1 : List UInt8 := [0, 0, 1, 2]
def kn2 : List UInt8 := [0, 0, 1, 2, 255, 255, 255, 255, 255, 255, 255, 255]
def kn3 : List UInt8 := [0, 0, 1, 2, 255, 255, 255, 255, 255, 255, 255, 255, 0, 0, 0, 1, 7]
set_option maxRecDepth 4000 in
set_option maxHeartbeats 1000000 in
theorem known01_any (w : World) :
    Calls Try.prog 12 #[] w fun e w' => e = .returned (.bool true) ∧ Below w.heap.size w w' := by
  have e1 : Hid (Wire.wNum (some []) 258 ((4 : Nat) : Int) = some kn1) := Lib.hid (by decide)
  have e2 : Hid (Wire.wNum (some kn1) (u64 (-1)) ((8 : Nat) : Int) = some kn2) := Lib.hid (by decide +kernel)
  have e3 : Hid (Wire.wBlob (some kn2) [7] = some kn3) := Lib.hid (by decide +kernel)
  have hw0 := new_writer w
  have H0 := Lib.hid hw0
  clear hw0
  go_enter Try.func12, Try.ntmps12
  go_wp2_with fail
  refine (wnumber_any w.heap.size w.heap.size 0 (some []) 258 (by decide) 4 (by omega) _ H0.out).mono ?_
  rintro e w1 ⟨rfl, hw1⟩
  have HS1 : Hid (WStep _ w1 w.heap.size w.heap.size 9 (some kn1)) := Lib.hid (by rw [← e1.out]; exact hw1)
  clear hw1
  go_wp2_with fail
  refine (wint_any w.heap.size w.heap.size 9 (some kn1) (-1) (by omega) _ HS1.out.1).mono ?_
  rintro e w2 ⟨rfl, hw2⟩
  have HS2 : Hid (WStep _ w2 w.heap.size w.heap.size 18 (some kn2)) := Lib.hid (by rw [← e2.out]; exact HS1.out.trans hw2)
  clear hw2
  have HB2 : Hid (Below w.heap.size w w2) := Lib.hid (((Below.refl w.heap.size w).alloc (Nat.le_refl _) _).trans HS2.out.2.1)
  have hI := HS2.out.1
  have HI2 := Lib.hid (hI.below ((Below.refl _ _).alloc (Nat.le_refl _) (.cells (rowB [7]) 5)))
  have hb : BS (w2.alloc (.cells (rowB [7]) 5)) (.slice (some ⟨w2.heap.size, 0, none⟩) 1 1) [7] := by
    have := BS.of_row (w := w2.alloc (.cells (rowB [7]) 5)) (new_rowW _ _ w2.heap.size rfl) 0 1 1 (by decide) (by decide) (by decide)
    simpa using this
  have HK := Lib.hid (BK.of_row (base := w.heap.size) hb (new_rowW _ _ w2.heap.size rfl) (by decide))
  clear hI hb
  go_wp2_with fail
  refine (wblob_any w.heap.size w.heap.size 18 (some kn2) _ [7] (by decide) _ HI2.out HK.out).mono ?_
  rintro e w3 ⟨rfl, hw3⟩
  have HS3 : Hid (WStep _ w3 w.heap.size w.heap.size 29 (some kn3)) := Lib.hid (by rw [← e3.out]; exact hw3)
  have HB3 : Hid (Below w.heap.size w w3) := Lib.hid ((HB2.out.alloc HB2.out.size _).trans hw3.2.1)
  clear hw3
  go_wp2_with fail
  refine (wend_some w.heap.size w.heap.size 29 kn3 (by decide) _ HS3.out.1).mono ?_
  rintro e w4 ⟨v, rfl, hown, hb4⟩
  have hstr := (BS.of_own hown).to_string
  obtain ⟨q, c, rfl⟩ := own_form hown
  have HB4 := Lib.hid (below_callW HB3.out hb4)
  clear hown hb4
  rw [show kn3.length = 17 from rfl] at *
  simp only [kn3] at hstr
  go_wp2
  go_ret
  exact ⟨rfl, HB4.out⟩
end Go.Proofs.Ytfpcpnjegbmdbaa
