/- Contracts of the reference's string functions on digits: text, digit, worth, Digits. -/
import Derived.Test.YtfpcpnjegbmdbaaNumB
import Derived.Test.YtfpcpnjegbmdbaaDec
set_option linter.unusedSimpArgs false
set_option linter.unusedVariables false
namespace Go.Proofs.Ytfpcpnjegbmdbaa
open Go.RowKit

theorem mem_of_lt (s : ByteArray) (k : Nat) (h : k < s.size) : s[k] ∈ s.data.toList := by
  have : s[k] = s.data.toList[k]'(by simpa using h) := rfl
  rw [this]; exact List.getElem_mem _
theorem take_snoc (s : ByteArray) (k : Nat) (h : k < s.size) : s.data.toList.take (k + 1) = s.data.toList.take k ++ [s[k]] := by
  rw [List.take_succ_eq_append_getElem (by simpa using h)]; rfl
theorem take_end (s : ByteArray) (k : Nat) (h : ¬ k < s.size) : s.data.toList.take k = s.data.toList := List.take_of_length_le (by simp; omega)
theorem cons_string (c : UInt8) (l : List UInt8) : Value.string (⟨#[c]⟩ ++ ⟨l.toArray⟩) = .string ⟨(c :: l).toArray⟩ := by
  congr 1
theorem ret_string {a b : ByteArray} (h : a = b) : Ending.returned (.string a) = .returned (.string b) := by rw [h]

/-- 'string([]byte{x})': the one byte. -/
theorem conv_one {P : Program} (src dst e : TypeId) (hs : P.underlying src = some (.slice e)) (he : P.underlying e = some (.int .u8)) (hd : P.underlying dst = some .string)
    (n : Int) (c : UInt8) (hn : n = (c.toNat : Int)) (W : World) :
    (convert src dst (.slice (some ⟨W.heap.size, 0, none⟩) 1 1)).run P (W.alloc (.cells #[.int .u8 n] e)) = .ok (.string ⟨#[c]⟩) (W.alloc (.cells #[.int .u8 n] e)) := by
  subst hn
  refine run_convert_bytes_back (P := P) _ src dst e ⟨W.heap.size, 0, none⟩ 1 [c] hs he hd ?_
  intro j hj
  have : j = 0 := by simpa using hj
  subst this
  simp [Addr.add, World.cell?_alloc_mark]

def strLen : Value → Nat
  | .string s => s.size
  | _ => 0