/- The reader's contracts where all is there. -/
import Derived.Test.YtfpcpnjegbmdbaaListB
import Derived.Test.YtfpcpnjegbmdbaaRefC
set_option linter.unusedVariables false
set_option linter.unusedSimpArgs false
namespace Go.Proofs.Ytfpcpnjegbmdbaa
open Go.RowKit

theorem IsR.drew {w : World} {base br : Nat} {st : Option (List UInt8)} (h : IsR w base br st) : IsR w.drew base br st := h.below (Below.refl _ _).drew
theorem rint_ok {W : World} {base br : Nat} {n : Int} {t : List UInt8} (h : IsR W base br (some (Wire.be (u64 n) 8 ++ t))) (hn : -9223372036854775808 ≤ n ∧ n ≤ 9223372036854775807) :
    Calls Try.prog 42 #[.pointer (some ⟨br, 0, none⟩)] W fun e w' => e = .returned (.int .i64 n) ∧ RStep W w' base br (some t) := by
  have := rint_any base br _ W h
  have h1 := rnum_be (u64 n) 8 t (by decide) (u64_lt n)
  rw [show ((8 : Nat) : Int) = 8 from rfl] at h1
  rwa [h1.1, h1.2, wrap_u64 n hn] at this
theorem rnumber_ok {W : World} {base br : Nat} {x : Nat} {t : List UInt8} (k : Int) (h : IsR W base br (some (Wire.be x k.toNat ++ t))) (hk : k = 1 ∨ k = 2 ∨ k = 4 ∨ k = 8) (hx : x < 256 ^ k.toNat) :
    Calls Try.prog 43 #[.pointer (some ⟨br, 0, none⟩), .int .i64 k] W fun e w' => e = .returned (.int .u64 (x : Int)) ∧ RStep W w' base br (some t) := by
  obtain ⟨z, rfl⟩ := Int.eq_ofNat_of_zero_le (show 0 ≤ k by omega)
  have := rnumber_any base br _ (z : Int) W h
  rw [Int.toNat_natCast] at this hx
  have h1 := rnum_be x z t (by omega) hx
  rwa [h1.1, h1.2] at this
theorem rflag_ok {W : World} {base br : Nat} {q : Bool} {t : List UInt8} (h : IsR W base br (some (Wire.be (if q then 1 else 0) 1 ++ t))) :
    Calls Try.prog 44 #[.pointer (some ⟨br, 0, none⟩)] W fun e w' => e = .returned (.bool q) ∧ RStep W w' base br (some t) := by
  have := rflag_any base br _ W h
  have h1 := rnum_be (if q then 1 else 0) 1 t (by decide) (by split <;> decide)
  rw [show ((1 : Nat) : Int) = 1 from rfl] at h1
  rw [h1.1, h1.2] at this
  cases q <;> simpa using this
theorem rtext_ok {W : World} {base br : Nat} {S : ByteArray} {t : List UInt8} (h : IsR W base br (some (encB (bytesOf S) ++ t))) (hS : S.size ≤ 300) :
    Calls Try.prog 45 #[.pointer (some ⟨br, 0, none⟩)] W fun e w' => e = .returned (.string S) ∧ RStep W w' base br (some t) := by
  have := rtext_any base br _ W h
  have h1 := rblob_enc (bytesOf S) t (by rw [bytesOf_length]; omega)
  rw [h1.1, h1.2] at this
  have h2 : (⟨(bytesOf S).toArray⟩ : ByteArray) = S := by unfold bytesOf; simp
  rwa [h2] at this
/-- what is left, less the last byte, behind j of k events -/
def cutSt (l : List Ev) (k j : Nat) : Option (List UInt8) := if j < k then some ((encL (l.drop j)).dropLast) else none
theorem encL_ne {l : List Ev} {j : Nat} (h : j < l.length) : encL (l.drop j) ≠ [] := by
  have hx : l[j]? = some l[j] := List.getElem?_eq_getElem h
  rw [encL_drop hx]
  intro e
  exact encE_ne _ (List.append_eq_nil_iff.1 e).1
theorem count_cut {l : List Ev} {k : Nat} {B : List UInt8} (hk : k = l.length) (hB : B = Wire.be k 2 ++ encL l) (h40 : k ≤ 40) : rNumV (some B.dropLast) 2 = k ∧ rNumS (some B.dropLast) 2 = cutSt l k 0 := by
  rcases Nat.eq_zero_or_pos k with h0 | h0
  · subst h0
    have hl : l = [] := List.length_eq_zero_iff.1 hk.symm
    subst hl
    have hb : B = [0, 0] := hB
    subst hb
    exact rnum_short [0] 2 (by decide) (by decide)
  · have hne : encL l ≠ [] := encL_ne (l := l) (j := 0) (by omega)
    rw [hB, dropLast_app hne]
    have h1 := rnum_be k 2 ((encL l).dropLast) (by decide) (by omega)
    rw [show ((2 : Nat) : Int) = 2 from rfl] at h1
    refine ⟨h1.1, h1.2.trans ?_⟩
    unfold cutSt
    rw [if_pos h0]; rfl
theorem cut_next {l : List Ev} {k j : Nat} {e : Ev} (hk : k = l.length) (hx : l[j]? = some e) (hj : j < k) (hw : e.wf) (hn : e.note.size ≤ 300) (hc : e.car.size ≤ 300) : s2 (cutSt l k j) = cutSt l k (j + 1) := by
  unfold cutSt
  rw [if_pos hj, encL_drop hx, s2_cut e _ hw hn hc]
  by_cases h : j + 1 < k
  · rw [if_pos h, if_neg (encL_ne (by omega))]
  · rw [if_neg h, if_pos]
    have : l.drop (j + 1) = [] := List.drop_of_length_le (by omega)
    rw [this]; rfl
theorem IsR.keptT {T : List TypeId} (h1 : 81 ∉ T) (h2 : 5 ∉ T) {w w' : World} {base br : Nat} {st : Option (List UInt8)} (h : IsR w base br st) (hk : Kept T w w') : IsR w' base br st := by
  obtain ⟨hb, g, cap, a, bad, L, r1, r2, h3⟩ := h
  refine ⟨hb, g, cap, a, bad, L, hk.block _ _ _ _ r1 h1, ?_, h3⟩
  obtain ⟨hl, hor⟩ := r2
  refine ⟨hl, ?_⟩
  rcases hor with h | ⟨g', cap', cur, e, hg, hh, h4⟩
  · exact .inl h
  · exact .inr ⟨g', cap', cur, e, hg, hk.block _ _ _ _ hh h2, h4⟩
/-- a store into the event at hand leaves the reader as it was -/
theorem ev_store {wB W : World} {base bx br : Nat} {cs : Array Value} {st : Option (List UInt8)} (h : IsR W base br st) (hrow : W.heap[bx]? = some (.cells cs 72 (0, 0))) (hb : base ≤ bx) (hB : Below base wB W) (i : Nat) (v : Value) :
    IsR (W.setCell ⟨bx, i, none⟩ v) base br st ∧ (W.setCell ⟨bx, i, none⟩ v).heap[bx]? = some (.cells (cs.setIfInBounds i v) 72 (0, 0)) ∧ Below base wB (W.setCell ⟨bx, i, none⟩ v) :=
  ⟨h.keptT (T := [72]) (by decide) (by decide) ((Kept.refl _ _).setCell hrow (by simp) _), heap_setCell_same _ _ _ _ _ _ hrow, hB.setCell hb _⟩
theorem ev_keep {W W' : World} {base bx br : Nat} {cs : Array Value} {st : Option (List UInt8)} (hr : RStep W W' base br st) (hrow : W.heap[bx]? = some (.cells cs 72 (0, 0))) : W'.heap[bx]? = some (.cells cs 72 (0, 0)) :=
  hr.2.2.block _ _ _ _ hrow (by decide)
end Go.Proofs.Ytfpcpnjegbmdbaa
