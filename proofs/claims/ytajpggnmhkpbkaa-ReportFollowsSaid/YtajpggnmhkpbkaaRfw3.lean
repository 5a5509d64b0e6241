/- Contracts of the reference's string functions on digits: text, digit, worth, Digits. -/
import Derived.Test.YtajpggnmhkpbkaaRfw2
import Derived.Test.YtajpggnmhkpbkaaRfw1

set_option linter.unusedSimpArgs false
set_option linter.unusedVariables false
namespace Go.Proofs.Ytajpggnmhkpbkaa
open Go.RowKit

theorem mem_of_lt (s : ByteArray) (k : Nat) (h : k < s.size) : s[k] ∈ s.data.toList := by
  have : s[k] = s.data.toList[k]'(by simpa using h) := rfl
  rw [this]; exact List.getElem_mem _
theorem take_snoc (s : ByteArray) (k : Nat) (h : k < s.size) : s.data.toList.take (k + 1) = s.data.toList.take k ++ [s[k]] := by
  rw [List.take_succ_eq_append_getElem (by simpa using h)]; rfl
theorem take_end (s : ByteArray) (k : Nat) (h : ¬ k < s.size) : s.data.toList.take k = s.data.toList := List.take_of_length_le (by simp; omega)
theorem cons_string (c : UInt8) (l : List UInt8) : Value.string (⟨#[c]⟩ ++ ⟨l.toArray⟩) = .string ⟨(c :: l).toArray⟩ := by
  congr 1
theorem ret_string {a b : ByteArray} (h : a = b) : Ending.returned (.string a) = .returned (.string b) := by rw [h]

/-- 'string([]byte{x})': the one byte. -/
theorem conv_one {P : Program} (src dst e : TypeId) (hs : P.underlying src = some (.slice e)) (he : P.underlying e = some (.int .u8)) (hd : P.underlying dst = some .string)
    (n : Int) (c : UInt8) (hn : n = (c.toNat : Int)) (W : World) :
    (convert src dst (.slice (some ⟨W.heap.size, 0, none⟩) 1 1)).run P (W.alloc (.cells #[.int .u8 n] e)) = .ok (.string ⟨#[c]⟩) (W.alloc (.cells #[.int .u8 n] e)) := by
  subst hn
  refine run_convert_bytes_back (P := P) _ src dst e ⟨W.heap.size, 0, none⟩ 1 [c] hs he hd ?_
  intro j hj
  have : j = 0 := by simpa using hj
  subst this
  simp [Addr.add, World.cell?_alloc_mark]

set_option maxHeartbeats 400000 in
theorem rtext_any (n many : Int) (h0 : 0 ≤ n) (h1 : n ≤ 999999999) (m0 : 0 ≤ many) (m1 : many ≤ 20) (w : World) :
    Calls Try.prog 56 #[.int .i64 n, .int .i64 many] w fun e w' => e = .returned (.string ⟨(Dec.text n.toNat many.toNat).toArray⟩) ∧ Below w.heap.size w w' := by
  obtain ⟨N, rfl⟩ := Int.eq_ofNat_of_zero_le h0
  obtain ⟨m, rfl⟩ := Int.eq_ofNat_of_zero_le m0
  simp only [Int.toNat_natCast]
  go_enter Try.func56, Try.ntmps56
  go_wp2
  go_loopw [0, 5, 6] (fun n5 s i wr => ∃ (k N' : Nat) (acc : List UInt8), k ≤ m ∧ i = .int .i64 k ∧ n5 = .int .i64 N' ∧ N' ≤ 999999999 ∧ s = .string ⟨acc.toArray⟩ ∧ acc.length ≤ k ∧ Dec.text N m = Dec.text N' (m - k) ++ acc ∧ Below w.heap.size w wr)
    (fun _ _ i _ => m - (intOf i).toNat)
  case atStart => exact ⟨0, N, [], Nat.zero_le _, rfl, rfl, by omega, rfl, by simp, by simp, Below.refl _ _⟩
  case round =>
    obtain ⟨k, N', acc, hk, rfl, rfl, hN, rfl, hal, ht, hb⟩ := hrel
    have HT := Lib.hid ht; clear ht
    by_cases hlt : k < m
    · have hcv := conv_one (P := Try.prog) 87 9 5 Try.underlying87 Try.underlying5 Try.underlying9 (48 + (N' : Int) % 10) (Dec.dig N') (by rw [Dec.dig_toNat]; omega)
      go_wp2
      go_roundw
      case rel =>
        refine ⟨k + 1, N' / 10, Dec.dig N' :: acc, by omega, by go_num, by go_num, by omega, cons_string _ _, by simp; omega, ?_, hb.alloc hb.size _⟩
        rw [HT.out, show m - k = (m - (k + 1)) + 1 from by omega]
        simp [Dec.text]
      case measure => simp [intOf]; omega
    · go_wp2
      go_ret
      refine ⟨ret_string ?_, hb⟩
      rw [HT.out, show m - k = 0 from by omega]
      rfl

set_option maxHeartbeats 400000 in
theorem rdigit_any (s : ByteArray) (hd : s.data.toList.all Dec.isDig = true) (hs : s.size ≤ 100) (w : World) :
    Calls Try.prog 57 #[.string s] w fun e w' => e = .returned (.int .u8 (48 + (Dec.val s.data.toList : Int) % 7)) ∧ w = w' := by
  have HA := Lib.hid hd; clear hd
  go_enter Try.func57, Try.ntmps57
  go_wp2
  go_loop [3, 4] (fun r i => ∃ (k a : Nat), k ≤ s.size ∧ i = .int .i64 k ∧ r = .int .i64 a ∧ a < 7 ∧ Dec.val (s.data.toList.take k) % 7 = a) (fun _ i => s.size - (intOf i).toNat)
  case atStart => exact ⟨0, 0, Nat.zero_le _, rfl, rfl, by omega, rfl⟩
  case round =>
    obtain ⟨k, a, hk, rfl, rfl, ha, hv⟩ := hrel
    have HV := Lib.hid hv; clear hv
    by_cases hlt : k < s.size
    · have hdk : 48 ≤ (s[k].toNat : Int) ∧ (s[k].toNat : Int) ≤ 57 := by
        have := List.all_eq_true.1 HA.out s[k] (mem_of_lt s k hlt)
        have := Dec.isDig_iff.1 this
        omega
      obtain ⟨hd1, hd2⟩ := hdk
      have HS : Hid (Dec.val (s.data.toList.take (k + 1)) = 10 * Dec.val (s.data.toList.take k) + Dec.dval s[k]) := Lib.hid (by rw [take_snoc s k hlt, Dec.val_snoc])
      go_wp2
      go_round
      case rel => exact ⟨k + 1, (10 * a + (s[k].toNat - 48)) % 7, by omega, by go_num, by go_num, by omega, by rw [HS.out]; have := HV.out; unfold Dec.dval; omega⟩
      case measure => simp [intOf]; omega
    · have HE := Lib.hid (take_end s k hlt)
      go_wp2
      go_ret
      refine ⟨ret_int ?_, rfl⟩
      have := HV.out
      rw [HE.out] at this
      omega

set_option maxHeartbeats 400000 in
theorem rworth_any (s : ByteArray) (hd : s.data.toList.all Dec.isDig = true) (hs : s.size ≤ 18) (w : World) :
    Calls Try.prog 31 #[.string s] w fun e w' => e = .returned (.int .u64 (Dec.val s.data.toList : Int)) ∧ w = w' := by
  have HA := Lib.hid hd; clear hd
  go_enter Try.func31, Try.ntmps31
  go_wp2
  go_loop [3, 4] (fun r i => ∃ (k a : Nat), k ≤ s.size ∧ i = .int .i64 k ∧ r = .int .u64 a ∧ a < 1000000000000000000 ∧ Dec.val (s.data.toList.take k) = a) (fun _ i => s.size - (intOf i).toNat)
  case atStart => exact ⟨0, 0, Nat.zero_le _, rfl, rfl, by omega, rfl⟩
  case round =>
    obtain ⟨k, a, hk, rfl, rfl, ha, hv⟩ := hrel
    have HV := Lib.hid hv; clear hv
    by_cases hlt : k < s.size
    · have hdk : 48 ≤ (s[k].toNat : Int) ∧ (s[k].toNat : Int) ≤ 57 := by
        have := List.all_eq_true.1 HA.out s[k] (mem_of_lt s k hlt)
        have := Dec.isDig_iff.1 this
        omega
      obtain ⟨hd1, hd2⟩ := hdk
      have HS : Hid (Dec.val (s.data.toList.take (k + 1)) = 10 * Dec.val (s.data.toList.take k) + Dec.dval s[k]) := Lib.hid (by rw [take_snoc s k hlt, Dec.val_snoc])
      have hb : 10 * a + (s[k].toNat - 48) < 1000000000000000000 := by
        have h1 : (s.data.toList.take (k + 1)).all Dec.isDig = true := List.all_eq_true.2 fun x hx => List.all_eq_true.1 HA.out x (List.mem_of_mem_take hx)
        have h2 := Dec.val_lt _ h1
        have h3 : (s.data.toList.take (k + 1)).length ≤ 18 := by simp; omega
        have h4 := Nat.pow_le_pow_right (n := 10) (by decide) h3
        rw [HS.out, HV.out] at h2
        unfold Dec.dval at h2
        omega
      go_wp2
      go_round
      case rel => exact ⟨k + 1, 10 * a + (s[k].toNat - 48), by omega, by go_num, by go_num, hb, by rw [HS.out, HV.out]; rfl⟩
      case measure => simp [intOf]; omega
    · have HE := Lib.hid (take_end s k hlt)
      go_wp2
      go_ret
      refine ⟨ret_int ?_, rfl⟩
      have := HV.out
      rw [HE.out] at this
      omega

def strLen : Value → Nat
  | .string s => s.size
  | _ => 0

set_option maxHeartbeats 400000 in
theorem rdigits_any (n : Int) (h0 : 0 ≤ n) (h1 : n ≤ 18446744073709551615) (w : World) :
    Calls Try.prog 55 #[.int .u64 n] w fun e w' => e = .returned (.string ⟨(Dec.digits n.toNat).toArray⟩) ∧ Below w.heap.size w w' := by
  obtain ⟨N, rfl⟩ := Int.eq_ofNat_of_zero_le h0
  simp only [Int.toNat_natCast]
  have HL : Hid ((Dec.digits N).length ≤ 20) := Lib.hid (Dec.digits_length_le N 19 (by omega))
  go_enter Try.func55, Try.ntmps55
  go_wp2
  go_loopw [0, 3] (fun n5 s wr => ∃ (N' : Nat) (acc : List UInt8), n5 = .int .u64 N' ∧ N' ≤ 18446744073709551615 ∧ s = .string ⟨acc.toArray⟩ ∧ Below w.heap.size w wr ∧ Dec.Dst N N' acc)
    (fun n5 s wr => (intOf n5).toNat + (1 - strLen s))
  case atStart => exact ⟨N, [], rfl, by omega, rfl, Below.refl _ _, .inl ⟨rfl, rfl⟩⟩
  case round =>
    obtain ⟨N', acc, rfl, hN, rfl, hb, hcase⟩ := hrel
    have hlen : acc.length ≤ 20 := by
      have := HL.out
      rcases hcase with ⟨rfl, rfl⟩ | ⟨_, _, ht⟩ | ⟨_, _, ht⟩
      · simp
      · rw [ht] at this; simp at this; omega
      · rw [ht] at this; exact this
    have hcv := conv_one (P := Try.prog) 87 9 5 Try.underlying87 Try.underlying5 Try.underlying9 (48 + (N' : Int) % 10) (Dec.dig N') (by rw [Dec.dig_toNat]; omega)
    by_cases hp : 0 < N'
    · have HT : Hid (Dec.Dst N (N' / 10) (Dec.dig N' :: acc)) := Lib.hid (by
        rcases hcase with ⟨rfl, rfl⟩ | ⟨_, _, ht⟩ | ⟨_, h0, _⟩
        · exact Dec.digits_step (by simp)
        · exact Dec.digits_step ht
        · omega)
      clear hcase
      go_wp2
      go_roundw
      case rel => exact ⟨N' / 10, Dec.dig N' :: acc, by go_num, by omega, cons_string _ _, hb.alloc hb.size _, HT.out⟩
      case measure => simp [intOf, strLen]; omega
    · obtain rfl : N' = 0 := by omega
      rcases hcase with ⟨rfl, rfl⟩ | ⟨_, h0, _⟩ | ⟨hne, _, ht⟩
      · have HT : Hid (Dec.Dst 0 (0 / 10) (Dec.dig 0 :: [])) := Lib.hid (Dec.digits_step (by simp))
        clear hcv
        have hcv := conv_one (P := Try.prog) 87 9 5 Try.underlying87 Try.underlying5 Try.underlying9 48 (Dec.dig 0) (by rw [Dec.dig_toNat]; rfl)
        go_wp2
        go_roundw
        case rel => exact ⟨0, Dec.dig 0 :: [], rfl, by omega, cons_string _ _, hb.alloc hb.size _, HT.out⟩
        case measure => simp [intOf, strLen, ByteArray.size]
      · omega
      · have HT := Lib.hid ht; clear ht
        go_wp2
        go_ret
        exact ⟨ret_string (by rw [HT.out]), hb⟩
end Go.Proofs.Ytajpggnmhkpbkaa
