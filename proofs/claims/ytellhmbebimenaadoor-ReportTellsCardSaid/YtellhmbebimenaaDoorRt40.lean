/- Contracts of package wire's Writer, on: Int, Flag, Blob, Text, Count, Len, End; and the chapter's rows (known). The wire chapter's rows (known), and small words on worlds. The writer's contracts where all has room. -/
import Derived.Test.YtellhmbebimenaaDoorRt39

section
set_option linter.unusedVariables false
set_option linter.unusedSimpArgs false
namespace Go.Proofs.YtellhmbebimenaaDoor
open Go.RowKit

def u64 (n : Int) : Nat := (n % 18446744073709551616).toNat
theorem u64_lt (n : Int) : u64 n < 18446744073709551616 := by unfold u64; omega
theorem u64_eq (n : Int) : IntKind.u64.wrap n = ((u64 n : Nat) : Int) := by rw [IntKind.wrap_u64]; unfold u64; omega
theorem u64_nat (N : Nat) (h : N < 18446744073709551616) : u64 N = N := by unfold u64; omega

set_option maxHeartbeats 400000 in
theorem wint_any (base bw k : Nat) (st : Option (List UInt8)) (n : Int) (hk : k + 9 ≤ 536870912) (w : World) (h : IsW w base bw k st) :
    Calls Tryd.prog 64 #[.pointer (some ⟨bw, 0, none⟩), .int .i64 n] w fun e w' => e = .returned (.pointer (some ⟨bw, 0, none⟩)) ∧ WStep w w' base bw (k + 9) (Wire.wNum st (u64 n) 8) := by
  have HC := Lib.hid (wnumber_any base bw k st (u64 n) (u64_lt n) 8 hk w h)
  have HU := Lib.hid (u64_eq n)
  clear h
  go_enter Tryd.func64, Tryd.ntmps64
  go_wp2_with fail
  refine Calls.mono (by rw [HU.out]; exact HC.out) ?_
  rintro e w1 ⟨rfl, hw1⟩
  go_wp2
  go_ret
  exact ⟨rfl, hw1⟩

theorem conv_text (W : World) (S : ByteArray) (hS : S.size ≤ maxLen) (base : Nat) : ∃ (v : Value) (w1 : World), (convert 9 38 (.string S)).run Tryd.prog W = .ok v w1 ∧ BK w1 base v S.data.toList ∧ Below W.heap.size W w1 ∧ ∃ q c, v = .slice q S.size c := by
  refine ⟨_, _, run_bytes_of_string (P := Tryd.prog) W 9 38 5 S Tryd.underlying9 Tryd.underlying38 Tryd.underlying5, ?_, (Below.refl _ _).drew.alloc (by simp) _, _, _, rfl⟩
  have hl : S.data.toList.length = S.size := by show S.data.toList.length = S.data.size; simp
  have hg : (W.drew.alloc (.cells (bytesRow S (grownCap W S.size 0 5)) 5 ((bytesRow S (grownCap W S.size 0 5)).size, (bytesRow S (grownCap W S.size 0 5)).size + 1))).heap[W.heap.size]? = _ := new_rowW _ _ _ rfl
  refine BK.of_row ⟨_, _, by rw [hl], by rw [hl]; exact grownCap_ge _ _ _ _, grownCap_le_maxLen _ _ _ _ hS, fun _ => ⟨_, 0, rfl, block_lt hg, fun i x hx => ?_⟩⟩ hg (by decide)
  have hi : i < S.data.size := by
    have := (List.getElem?_eq_some_iff.1 hx).1
    simpa using this
  rw [cell_of_row _ _ _ _ _ _ hg, Nat.zero_add, bytesRow_at _ _ _ hi]
  have : S.data[i] = x := by
    rw [List.getElem?_eq_getElem (by simpa using hi)] at hx
    injection hx
  rw [this]

def wLen (st : Option (List UInt8)) : Nat := match st with | none => 0 | some l => l.length
theorem IsW.pieces {w : World} {base bw k : Nat} {l : List UInt8} (h : IsW w base bw k (some l)) :
    ∃ (pv : Value) (ps : List (List UInt8)), w.heap[bw]? = some (.cells #[pv, .int .i64 l.length, .bool false] 76 (0, 0)) ∧ ps.flatten = l ∧ PcS w pv ps ∧ l.length ≤ k := by
  obtain ⟨_, pv, ps, vs, h1, h2, h3, h4, h5, h6⟩ := h
  refine ⟨pv, ps, h1, h2, ?_, by omega⟩
  obtain ⟨hlen, hor⟩ := h5
  rcases hor with ⟨rfl, h0⟩ | ⟨g, cap, cur, rfl, hg, hh, hnc, hcm, hcs, htk⟩
  · have : ps = [] := List.length_eq_zero_iff.1 (by omega)
    subst this
    exact ⟨none, 0, rfl, Nat.le_refl _, Nat.zero_le _, fun h => absurd rfl h⟩
  · refine ⟨_, cap, by rw [h3], by omega, hcm, fun _ => ⟨g, 0, rfl, fun i b hb => ?_⟩⟩
    have hi : i < ps.length := (List.getElem?_eq_some_iff.1 hb).1
    have hx : vs[i]? = some vs[i] := List.getElem?_eq_getElem (by omega)
    refine ⟨vs[i], ?_, BS.of_own (h6 i _ b hx hb)⟩
    rw [cell_of_row w g _ cur _ _ hh, Nat.zero_add]
    have h1 : (cur.toList.take (vs.length * 1))[i]? = some vs[i] := by rw [htk, hx]
    rw [List.getElem?_take_of_lt (by omega)] at h1
    simpa using h1

set_option maxHeartbeats 400000 in
theorem wend_some (base bw k : Nat) (l : List UInt8) (hk : k ≤ 1073741824) (w : World) (h : IsW w base bw k (some l)) :
    Calls Tryd.prog 46 #[.pointer (some ⟨bw, 0, none⟩)] w fun e w' => ∃ v, e = .returned (.tuple #[v, .int .i64 0]) ∧ w'.ownsRow w.heap.size 5 1 v l.length (bytesV l) ∧ Below w.heap.size w w' := by
  obtain ⟨pv, ps, hrow, hfl, hpc, hl⟩ := h.pieces
  have hc := fun j => cell_of_row w bw j _ _ _ hrow
  have HPC := Lib.hid hpc
  obtain ⟨q, c, rfl, -⟩ := hpc
  subst hfl
  clear hrow h
  have HL := Lib.hid hl; clear hl
  go_enter Tryd.func46, Tryd.ntmps46
  go_wp2_with fail
  refine (concat_any _ ps (by have := HL.out; omega) w HPC.out).mono ?_
  rintro e w1 ⟨v, rfl, hown, hb⟩
  have HO := Lib.hid hown; clear hown
  go_wp2
  go_ret2
  exact ⟨v, rfl, HO.out, hb⟩

set_option maxHeartbeats 400000 in
theorem wend_none (base bw k : Nat) (w : World) (h : IsW w base bw k none) :
    Calls Tryd.prog 46 #[.pointer (some ⟨bw, 0, none⟩)] w fun e w' => e = .returned (.tuple #[.slice none 0 0, .int .i64 2]) ∧ w = w' := by
  have hc := fun j => cell_of_row w bw j _ _ _ h.2
  clear h
  go_enter Tryd.func46, Tryd.ntmps46
  go_wp2
  go_ret2
  exact ⟨rfl, rfl⟩
end Go.Proofs.YtellhmbebimenaaDoor
end

section
set_option linter.unusedVariables false
set_option linter.unusedSimpArgs false
namespace Go.Proofs.YtellhmbebimenaaDoor
open Go.RowKit

theorem new_writer (w : World) : IsW (w.alloc (.cells #[.slice none 0 0, .int .i64 0, .bool false] 76 (0, 0))) w.heap.size w.heap.size 0 (some []) :=
  ⟨Nat.le_refl _, .slice none 0 0, [], [], new_rowW _ _ _ rfl, rfl, rfl, Nat.le_refl _, World.ownsRow_nil _ _ _ _, fun i x b h => by simp at h⟩
theorem i64_bdW {n : Int} (h : (Lit.int .i64 n).wf = true) : -9223372036854775808 ≤ n ∧ n ≤ 9223372036854775807 := by
  simpa [Lit.wf, IntKind.min, IntKind.max, IntKind.signed, IntKind.bits] using h
theorem u64_bdW {n : Int} (h : (Lit.int .u64 n).wf = true) : 0 ≤ n ∧ n ≤ 18446744073709551615 := by
  simpa [Lit.wf, IntKind.min, IntKind.max, IntKind.signed, IntKind.bits] using h
theorem ballocW {a w : World} (h : Below a.heap.size a w) (o : Obj) : Below a.heap.size a (w.alloc o) := h.alloc h.size o
theorem below_callW {a w w' : World} (h : Below a.heap.size a w) (hx : Below w.heap.size w w') : Below a.heap.size a w' := h.trans (hx.mono h.size)

def kn1 : List UInt8 := [0, 0, 1, 2]
def kn2 : List UInt8 := [0, 0, 1, 2, 255, 255, 255, 255, 255, 255, 255, 255]
def kn3 : List UInt8 := [0, 0, 1, 2, 255, 255, 255, 255, 255, 255, 255, 255, 0, 0, 0, 1, 7]
end Go.Proofs.YtellhmbebimenaaDoor
end

section
set_option linter.unusedVariables false
set_option linter.unusedSimpArgs false
namespace Go.Proofs.YtellhmbebimenaaDoor
open Go.RowKit

theorem IsW.drewE {w : World} {base bw k : Nat} {st : Option (List UInt8)} (h : IsW w base bw k st) : IsW w.drew base bw k st := h.below (Below.refl _ _).drew
theorem wnum_okE {L : List UInt8} {N k : Nat} (hk : k = 1 ∨ k = 2 ∨ k = 4 ∨ k = 8) (hN : N < 256 ^ k) : Wire.wNum (some L) N (k : Int) = some (L ++ Wire.be N k) := by
  unfold Wire.wNum
  rw [if_pos ⟨by rcases hk with rfl | rfl | rfl | rfl <;> rfl, by rw [Int.toNat_natCast]; exact hN⟩, Int.toNat_natCast]; rfl
theorem wint_okE {W : World} {base bw k : Nat} {L : List UInt8} (h : IsW W base bw k (some L)) (hk : k + 9 ≤ 536870912) (n : Int) :
    Calls Tryd.prog 64 #[.pointer (some ⟨bw, 0, none⟩), .int .i64 n] W fun e w' => e = .returned (.pointer (some ⟨bw, 0, none⟩)) ∧ WStep W w' base bw (k + 9) (some (L ++ Wire.be (u64 n) 8)) := by
  have := wint_any _ _ _ _ n hk W h
  rwa [show (8 : Int) = ((8 : Nat) : Int) from rfl, wnum_okE (by decide) (u64_lt n)] at this
theorem wnumber_okE {W : World} {base bw k : Nat} {L : List UInt8} (h : IsW W base bw k (some L)) (hk : k + 9 ≤ 536870912) (N : Nat) (s : Int) (hz : s = 1 ∨ s = 2 ∨ s = 4 ∨ s = 8) (hN : N < 256 ^ s.toNat) :
    Calls Tryd.prog 43 #[.pointer (some ⟨bw, 0, none⟩), .int .u64 (N : Int), .int .i64 s] W fun e w' => e = .returned (.pointer (some ⟨bw, 0, none⟩)) ∧ WStep W w' base bw (k + 9) (some (L ++ Wire.be N s.toNat)) := by
  obtain ⟨z, rfl⟩ := Int.eq_ofNat_of_zero_le (show 0 ≤ s by omega)
  rw [Int.toNat_natCast] at hN ⊢
  have hz' : z = 1 ∨ z = 2 ∨ z = 4 ∨ z = 8 := by omega
  have h256 : N < 18446744073709551616 := Nat.lt_of_lt_of_le hN (by rcases hz' with rfl | rfl | rfl | rfl <;> decide)
  have := wnumber_any _ _ _ _ N h256 (z : Int) hk W h
  rwa [wnum_okE hz' hN] at this
end Go.Proofs.YtellhmbebimenaaDoor
end
