/- Contracts of the reference's string functions on digits: text, digit, worth, Digits. Contracts of the reference's Text, Make, Of, Check, Parts, MayStock, In, and of the program's MayStock, In. -/
import Derived.Test.YtadabjkhiaidcaaDsl4

section
set_option linter.unusedSimpArgs false
set_option linter.unusedVariables false
namespace Go.Proofs.Ytadabjkhiaidcaa
open Go.RowKit

theorem mem_of_lt (s : ByteArray) (k : Nat) (h : k < s.size) : s[k] ∈ s.data.toList := by
  have : s[k] = s.data.toList[k]'(by simpa using h) := rfl
  rw [this]; exact List.getElem_mem _
theorem take_snoc (s : ByteArray) (k : Nat) (h : k < s.size) : s.data.toList.take (k + 1) = s.data.toList.take k ++ [s[k]] := by
  rw [List.take_succ_eq_append_getElem (by simpa using h)]; rfl
theorem take_end (s : ByteArray) (k : Nat) (h : ¬ k < s.size) : s.data.toList.take k = s.data.toList := List.take_of_length_le (by simp; omega)
theorem cons_string (c : UInt8) (l : List UInt8) : Value.string (⟨#[c]⟩ ++ ⟨l.toArray⟩) = .string ⟨(c :: l).toArray⟩ := by
  congr 1
theorem ret_string {a b : ByteArray} (h : a = b) : Ending.returned (.string a) = .returned (.string b) := by rw [h]

/-- 'string([]byte{x})': the one byte. -/
theorem conv_one {P : Program} (src dst e : TypeId) (hs : P.underlying src = some (.slice e)) (he : P.underlying e = some (.int .u8)) (hd : P.underlying dst = some .string)
    (n : Int) (c : UInt8) (hn : n = (c.toNat : Int)) (W : World) :
    (convert src dst (.slice (some ⟨W.heap.size, 0, none⟩) 1 1)).run P (W.alloc (.cells #[.int .u8 n] e)) = .ok (.string ⟨#[c]⟩) (W.alloc (.cells #[.int .u8 n] e)) := by
  subst hn
  refine run_convert_bytes_back (P := P) _ src dst e ⟨W.heap.size, 0, none⟩ 1 [c] hs he hd ?_
  intro j hj
  have : j = 0 := by simpa using hj
  subst this
  simp [Addr.add, World.cell?_alloc_mark]

set_option maxHeartbeats 400000 in
theorem rtext_any (n many : Int) (h0 : 0 ≤ n) (h1 : n ≤ 999999999) (m0 : 0 ≤ many) (m1 : many ≤ 20) (w : World) :
    Calls Try.prog 94 #[.int .i64 n, .int .i64 many] w fun e w' => e = .returned (.string ⟨(Dec.text n.toNat many.toNat).toArray⟩) ∧ Below w.heap.size w w' := by
  obtain ⟨N, rfl⟩ := Int.eq_ofNat_of_zero_le h0
  obtain ⟨m, rfl⟩ := Int.eq_ofNat_of_zero_le m0
  simp only [Int.toNat_natCast]
  go_enter Try.func94, Try.ntmps94
  go_wp2
  go_loopw [0, 5, 6] (fun n5 s i wr => ∃ (k N' : Nat) (acc : List UInt8), k ≤ m ∧ i = .int .i64 k ∧ n5 = .int .i64 N' ∧ N' ≤ 999999999 ∧ s = .string ⟨acc.toArray⟩ ∧ acc.length ≤ k ∧ Dec.text N m = Dec.text N' (m - k) ++ acc ∧ Below w.heap.size w wr)
    (fun _ _ i _ => m - (intOf i).toNat)
  case atStart => exact ⟨0, N, [], Nat.zero_le _, rfl, rfl, by omega, rfl, by simp, by simp, Below.refl _ _⟩
  case round =>
    obtain ⟨k, N', acc, hk, rfl, rfl, hN, rfl, hal, ht, hb⟩ := hrel
    have HT := Lib.hid ht; clear ht
    by_cases hlt : k < m
    · have hcv := conv_one (P := Try.prog) 113 9 5 Try.underlying113 Try.underlying5 Try.underlying9 (48 + (N' : Int) % 10) (Dec.dig N') (by rw [Dec.dig_toNat]; omega)
      go_wp2
      go_roundw
      case rel =>
        refine ⟨k + 1, N' / 10, Dec.dig N' :: acc, by omega, by go_num, by go_num, by omega, cons_string _ _, by simp; omega, ?_, hb.alloc hb.size _⟩
        rw [HT.out, show m - k = (m - (k + 1)) + 1 from by omega]
        simp [Dec.text]
      case measure => simp [intOf]; omega
    · go_wp2
      go_ret
      refine ⟨ret_string ?_, hb⟩
      rw [HT.out, show m - k = 0 from by omega]
      rfl

set_option maxHeartbeats 400000 in
theorem rdigit_any (s : ByteArray) (hd : s.data.toList.all Dec.isDig = true) (hs : s.size ≤ 100) (w : World) :
    Calls Try.prog 95 #[.string s] w fun e w' => e = .returned (.int .u8 (48 + (Dec.val s.data.toList : Int) % 7)) ∧ w = w' := by
  have HA := Lib.hid hd; clear hd
  go_enter Try.func95, Try.ntmps95
  go_wp2
  go_loop [3, 4] (fun r i => ∃ (k a : Nat), k ≤ s.size ∧ i = .int .i64 k ∧ r = .int .i64 a ∧ a < 7 ∧ Dec.val (s.data.toList.take k) % 7 = a) (fun _ i => s.size - (intOf i).toNat)
  case atStart => exact ⟨0, 0, Nat.zero_le _, rfl, rfl, by omega, rfl⟩
  case round =>
    obtain ⟨k, a, hk, rfl, rfl, ha, hv⟩ := hrel
    have HV := Lib.hid hv; clear hv
    by_cases hlt : k < s.size
    · have hdk : 48 ≤ (s[k].toNat : Int) ∧ (s[k].toNat : Int) ≤ 57 := by
        have := List.all_eq_true.1 HA.out s[k] (mem_of_lt s k hlt)
        have := Dec.isDig_iff.1 this
        omega
      obtain ⟨hd1, hd2⟩ := hdk
      have HS : Hid (Dec.val (s.data.toList.take (k + 1)) = 10 * Dec.val (s.data.toList.take k) + Dec.dval s[k]) := Lib.hid (by rw [take_snoc s k hlt, Dec.val_snoc])
      go_wp2
      go_round
      case rel => exact ⟨k + 1, (10 * a + (s[k].toNat - 48)) % 7, by omega, by go_num, by go_num, by omega, by rw [HS.out]; have := HV.out; unfold Dec.dval; omega⟩
      case measure => simp [intOf]; omega
    · have HE := Lib.hid (take_end s k hlt)
      go_wp2
      go_ret
      refine ⟨ret_int ?_, rfl⟩
      have := HV.out
      rw [HE.out] at this
      omega

set_option maxHeartbeats 400000 in
theorem rworth_any (s : ByteArray) (hd : s.data.toList.all Dec.isDig = true) (hs : s.size ≤ 18) (w : World) :
    Calls Try.prog 69 #[.string s] w fun e w' => e = .returned (.int .u64 (Dec.val s.data.toList : Int)) ∧ w = w' := by
  have HA := Lib.hid hd; clear hd
  go_enter Try.func69, Try.ntmps69
  go_wp2
  go_loop [3, 4] (fun r i => ∃ (k a : Nat), k ≤ s.size ∧ i = .int .i64 k ∧ r = .int .u64 a ∧ a < 1000000000000000000 ∧ Dec.val (s.data.toList.take k) = a) (fun _ i => s.size - (intOf i).toNat)
  case atStart => exact ⟨0, 0, Nat.zero_le _, rfl, rfl, by omega, rfl⟩
  case round =>
    obtain ⟨k, a, hk, rfl, rfl, ha, hv⟩ := hrel
    have HV := Lib.hid hv; clear hv
    by_cases hlt : k < s.size
    · have hdk : 48 ≤ (s[k].toNat : Int) ∧ (s[k].toNat : Int) ≤ 57 := by
        have := List.all_eq_true.1 HA.out s[k] (mem_of_lt s k hlt)
        have := Dec.isDig_iff.1 this
        omega
      obtain ⟨hd1, hd2⟩ := hdk
      have HS : Hid (Dec.val (s.data.toList.take (k + 1)) = 10 * Dec.val (s.data.toList.take k) + Dec.dval s[k]) := Lib.hid (by rw [take_snoc s k hlt, Dec.val_snoc])
      have hb : 10 * a + (s[k].toNat - 48) < 1000000000000000000 := by
        have h1 : (s.data.toList.take (k + 1)).all Dec.isDig = true := List.all_eq_true.2 fun x hx => List.all_eq_true.1 HA.out x (List.mem_of_mem_take hx)
        have h2 := Dec.val_lt _ h1
        have h3 : (s.data.toList.take (k + 1)).length ≤ 18 := by simp; omega
        have h4 := Nat.pow_le_pow_right (n := 10) (by decide) h3
        rw [HS.out, HV.out] at h2
        unfold Dec.dval at h2
        omega
      go_wp2
      go_round
      case rel => exact ⟨k + 1, 10 * a + (s[k].toNat - 48), by omega, by go_num, by go_num, hb, by rw [HS.out, HV.out]; rfl⟩
      case measure => simp [intOf]; omega
    · have HE := Lib.hid (take_end s k hlt)
      go_wp2
      go_ret
      refine ⟨ret_int ?_, rfl⟩
      have := HV.out
      rw [HE.out] at this
      omega

def strLen : Value → Nat
  | .string s => s.size
  | _ => 0

set_option maxHeartbeats 400000 in
theorem rdigits_any (n : Int) (h0 : 0 ≤ n) (h1 : n ≤ 18446744073709551615) (w : World) :
    Calls Try.prog 105 #[.int .u64 n] w fun e w' => e = .returned (.string ⟨(Dec.digits n.toNat).toArray⟩) ∧ Below w.heap.size w w' := by
  obtain ⟨N, rfl⟩ := Int.eq_ofNat_of_zero_le h0
  simp only [Int.toNat_natCast]
  have HL : Hid ((Dec.digits N).length ≤ 20) := Lib.hid (Dec.digits_length_le N 19 (by omega))
  go_enter Try.func105, Try.ntmps105
  go_wp2
  go_loopw [0, 3] (fun n5 s wr => ∃ (N' : Nat) (acc : List UInt8), n5 = .int .u64 N' ∧ N' ≤ 18446744073709551615 ∧ s = .string ⟨acc.toArray⟩ ∧ Below w.heap.size w wr ∧ Dec.Dst N N' acc)
    (fun n5 s wr => (intOf n5).toNat + (1 - strLen s))
  case atStart => exact ⟨N, [], rfl, by omega, rfl, Below.refl _ _, .inl ⟨rfl, rfl⟩⟩
  case round =>
    obtain ⟨N', acc, rfl, hN, rfl, hb, hcase⟩ := hrel
    have hlen : acc.length ≤ 20 := by
      have := HL.out
      rcases hcase with ⟨rfl, rfl⟩ | ⟨_, _, ht⟩ | ⟨_, _, ht⟩
      · simp
      · rw [ht] at this; simp at this; omega
      · rw [ht] at this; exact this
    have hcv := conv_one (P := Try.prog) 113 9 5 Try.underlying113 Try.underlying5 Try.underlying9 (48 + (N' : Int) % 10) (Dec.dig N') (by rw [Dec.dig_toNat]; omega)
    by_cases hp : 0 < N'
    · have HT : Hid (Dec.Dst N (N' / 10) (Dec.dig N' :: acc)) := Lib.hid (by
        rcases hcase with ⟨rfl, rfl⟩ | ⟨_, _, ht⟩ | ⟨_, h0, _⟩
        · exact Dec.digits_step (by simp)
        · exact Dec.digits_step ht
        · omega)
      clear hcase
      go_wp2
      go_roundw
      case rel => exact ⟨N' / 10, Dec.dig N' :: acc, by go_num, by omega, cons_string _ _, hb.alloc hb.size _, HT.out⟩
      case measure => simp [intOf, strLen]; omega
    · obtain rfl : N' = 0 := by omega
      rcases hcase with ⟨rfl, rfl⟩ | ⟨_, h0, _⟩ | ⟨hne, _, ht⟩
      · have HT : Hid (Dec.Dst 0 (0 / 10) (Dec.dig 0 :: [])) := Lib.hid (Dec.digits_step (by simp))
        clear hcv
        have hcv := conv_one (P := Try.prog) 113 9 5 Try.underlying113 Try.underlying5 Try.underlying9 48 (Dec.dig 0) (by rw [Dec.dig_toNat]; rfl)
        go_wp2
        go_roundw
        case rel => exact ⟨0, Dec.dig 0 :: [], rfl, by omega, cons_string _ _, hb.alloc hb.size _, HT.out⟩
        case measure => simp [intOf, strLen, ByteArray.size]
      · omega
      · have HT := Lib.hid ht; clear ht
        go_wp2
        go_ret
        exact ⟨ret_string (by rw [HT.out]), hb⟩
end Go.Proofs.Ytadabjkhiaidcaa
end

section
set_option linter.unusedSimpArgs false
set_option linter.unusedVariables false
namespace Go.Proofs.Ytadabjkhiaidcaa
open Go.RowKit

set_option maxHeartbeats 400000 in
theorem rmayCarrier_any (c : Int) (w : World) :
    Calls Try.prog 68 #[.int .i64 c] w fun e w' => e = .returned (.bool (Num.mayC c)) ∧ w = w' := by
  go_enter Try.func68, Try.ntmps68
  go_wp2
  all_goals
    go_ret
    refine ⟨ret_bool ?_, rfl⟩
    unfold Num.mayC
    simp; omega

theorem app_string (a b : List UInt8) : (⟨a.toArray⟩ ++ ⟨b.toArray⟩ : ByteArray) = ⟨(a ++ b).toArray⟩ := by
  apply ByteArray.ext; simp
theorem size_string (a : List UInt8) : (⟨a.toArray⟩ : ByteArray).size = a.length := by simp [ByteArray.size]

set_option maxHeartbeats 400000 in
theorem rText_any (c s : Int) (c0 : 0 ≤ c) (c1 : c ≤ 999) (s0 : 0 ≤ s) (s1 : s ≤ 999999999) (w : World) :
    Calls Try.prog 70 #[.int .i64 c, .int .i64 s] w fun e w' => e = .returned (.string ⟨(Num.textOf c.toNat s.toNat).toArray⟩) ∧ Below w.heap.size w w' := by
  go_enter Try.func70, Try.ntmps70
  go_wp2_with fail
  refine (rtext_any _ _ c0 (by omega) (by omega) (by omega) _).mono ?_
  rintro e w1 ⟨rfl, hb1⟩
  rw [show (3 : Int).toNat = 3 from rfl]
  go_wp2_with fail
  refine (rtext_any _ _ s0 (by omega) (by omega) (by omega) _).mono ?_
  rintro e w2 ⟨rfl, hb2⟩
  rw [show (9 : Int).toNat = 9 from rfl]
  have hl3 := Dec.text_length c.toNat 3
  have hl9 := Dec.text_length s.toNat 9
  have hz : (⟨(Dec.text c.toNat 3 ++ Dec.text s.toNat 9).toArray⟩ : ByteArray).size = 12 := by rw [size_string, List.length_append, hl3, hl9]
  go_wp2_with fail
  rw [app_string]
  have hall : (Dec.text c.toNat 3 ++ Dec.text s.toNat 9).all Dec.isDig = true := by rw [List.all_append, Dec.text_all, Dec.text_all]; rfl
  refine (rdigit_any _ (by simpa using hall) (by omega) _).mono ?_
  rintro e w3 ⟨rfl, rfl⟩
  have hcv := conv_one (P := Try.prog) 113 9 5 Try.underlying113 Try.underlying5 Try.underlying9 (48 + (Dec.val (Dec.text c.toNat 3 ++ Dec.text s.toNat 9) : Int) % 7) (Dec.dig ((c.toNat * 1000000000 + s.toNat) % 7))
    (by rw [Dec.dig_toNat, Num.half_val _ _ (by omega) (by omega)]; omega)
  have HT : Hid (Num.textOf c.toNat s.toNat = (Dec.text c.toNat 3 ++ Dec.text s.toNat 9) ++ [Dec.dig ((c.toNat * 1000000000 + s.toNat) % 7)]) := Lib.hid rfl
  generalize Dec.text c.toNat 3 ++ Dec.text s.toNat 9 = t at *
  go_wp2
  go_ret
  refine ⟨ret_string ?_, ((hb1.trans (hb2.mono hb1.size)).alloc (Nat.le_trans hb1.size hb2.size) _)⟩
  rw [HT.out]
  exact app_string _ _

set_option maxHeartbeats 400000 in
theorem rMake_any (c s : Int) (w : World) :
    Calls Try.prog 40 #[.int .i64 c, .int .i64 s] w fun e w' => e = .returned (.tuple #[.int .u64 (Num.mkN c s), .bool (Num.mayC c && Num.mayS s)]) ∧ Below w.heap.size w w' := by
  by_cases h : (Num.mayC c && Num.mayS s) = true
  · have h1 : Num.mkN c s = Num.make c s := by unfold Num.mkN; rw [if_pos h]
    rw [h1, h]; clear h1
    rw [Bool.and_eq_true] at h
    obtain ⟨hc, hs⟩ := h
    have bc := Num.mayC_iff.1 hc
    have bs := Num.mayS_iff.1 hs
    have hv := Num.make_val c.toNat s.toNat (by omega) (by omega)
    rw [show ((c.toNat : Nat) : Int) = c from by omega, show ((s.toNat : Nat) : Int) = s from by omega] at hv
    have HV := Lib.hid hv; clear hv
    have HA := Lib.hid (Num.textOf_all c.toNat s.toNat)
    have HL := Lib.hid (Num.textOf_length c.toNat s.toNat)
    go_enter Try.func40, Try.ntmps40
    go_wp2_with (first | (go_at_call 68; refine (rmayCarrier_any _ _).mono ?_; rintro e w' ⟨rfl, rfl⟩))
    refine (rText_any c s (by omega) (by omega) (by omega) (by omega) _).mono ?_
    rintro e w1 ⟨rfl, hb1⟩
    generalize Num.textOf c.toNat s.toNat = t at *
    go_wp2_with fail
    refine (rworth_any _ (by simpa using HA.out) (by rw [size_string]; have := HL.out; omega) _).mono ?_
    rintro e w2 ⟨rfl, rfl⟩
    go_wp2
    go_ret2
    refine ⟨?_, hb1⟩
    show Ending.returned (.tuple #[.int .u64 (Dec.val t : Int), .bool true]) = _
    rw [HV.out]
  · have h1 : Num.mkN c s = 0 := by unfold Num.mkN; rw [if_neg h]
    rw [h1, Bool.eq_false_iff.2 h]; clear h1
    have H := Lib.hid h; clear h
    by_cases hs : 0 ≤ s ∧ s ≤ 999999999
    · have hc : Num.mayC c = false := by
        have := H.out
        rw [Num.mayS_iff.2 hs, Bool.and_true] at this
        simpa using this
      obtain ⟨hs0, hs1⟩ := hs
      go_enter Try.func40, Try.ntmps40
      go_wp2_with (first | (go_at_call 68; refine (rmayCarrier_any _ _).mono ?_; rintro e w' ⟨rfl, rfl⟩))
      go_ret2
      exact ⟨rfl, Below.refl _ _⟩
    · have hs' : s < 0 ∨ 999999999 < s := by omega
      clear hs
      cases hc : Num.mayC c
      all_goals
        rcases hs' with hs' | hs'
        all_goals
          go_enter Try.func40, Try.ntmps40
          go_wp2_with (first | (go_at_call 68; refine (rmayCarrier_any _ _).mono ?_; rintro e w' ⟨rfl, rfl⟩))
          go_ret2
          exact ⟨rfl, Below.refl _ _⟩

theorem all_drop {s : ByteArray} {k : Nat} (h : k < s.size) {b : Bool} (hb : Dec.isDig s[k] = b) : (s.data.toList.drop k).all Dec.isDig = (b && (s.data.toList.drop (k + 1)).all Dec.isDig) := by
  rw [drop_step s k h, List.all_cons, hb]
theorem isDig_no {c : UInt8} (h : (c.toNat : Int) < 48 ∨ 57 < (c.toNat : Int)) : Dec.isDig c = false := by
  rw [Bool.eq_false_iff]; intro h'; have := Dec.isDig_iff.1 h'; omega
theorem isDig_yes {c : UInt8} (h : 48 ≤ (c.toNat : Int)) (h' : (c.toNat : Int) ≤ 57) : Dec.isDig c = true := Dec.isDig_iff.2 (by omega)

/-- a text of 13 digits: what its number says of its signs -/
theorem of13 (l : List UInt8) (hl : l.length = 13) (ha : l.all Dec.isDig = true) :
    ∃ (a b : UInt8) (m : List UInt8), l = (a :: m) ++ [b] ∧ m.length = 11 ∧ Dec.isDig a = true ∧ Dec.isDig b = true ∧ Dec.val l = 10 * Dec.val (a :: m) + Dec.dval b ∧ Dec.val l < 10000000000000 ∧
      (Dec.val l < 1000000000000 ↔ a.toNat = 48) := by
  match l, hl with
  | a :: r, hl =>
    have hr : r ≠ [] := by intro e; subst e; simp at hl
    have e := List.dropLast_concat_getLast hr
    have hm : r.dropLast.length = 11 := by simp at hl ⊢; omega
    generalize r.dropLast = m at *
    generalize r.getLast hr = b at *
    subst e
    have ha' : Dec.isDig a = true ∧ m.all Dec.isDig = true ∧ Dec.isDig b = true := by simpa using ha
    have v1 : Dec.val (a :: m ++ [b]) = 10 * Dec.val (a :: m) + Dec.dval b := Dec.val_snoc (a :: m) b
    have v2 : Dec.val (a :: m) = Dec.dval a * 10 ^ 11 + Dec.val m := by
      have := Dec.val_append [a] m
      rw [hm] at this
      have h1 : Dec.val [a] = Dec.dval a := by show 10 * 0 + Dec.dval a = _; omega
      rw [h1] at this
      exact this
    have v3 := Dec.val_lt m ha'.2.1
    rw [hm] at v3
    have d1 := Dec.dval_le ha'.1
    have d2 := Dec.dval_le ha'.2.2
    have i1 := Dec.isDig_iff.1 ha'.1
    refine ⟨a, b, m, rfl, hm, ha'.1, ha'.2.2, v1, ?_, ?_⟩
    · rw [show a :: (m ++ [b]) = a :: m ++ [b] from rfl]; omega
    · rw [show a :: (m ++ [b]) = a :: m ++ [b] from rfl]
      unfold Dec.dval at *
      omega

theorem ofE_short {l : List UInt8} (h : l.length ≠ 13 ∨ l.all Dec.isDig = false) : Num.ofE l = 4 ∧ Num.ofN l = 0 := by
  have h4 : Num.ofE l = 4 := by
    unfold Num.ofE
    rw [if_neg]
    rintro ⟨h1, h2⟩
    rcases h with h | h
    · exact h h1
    · rw [h2] at h; cases h
  exact ⟨h4, by unfold Num.ofN; rw [h4]; rfl⟩

/-- a contract 'w = w'' inside a region that draws -/
theorem quiet_left {P : Program} {f : FuncId} {args : Array Value} {w : World} {n : Nat} {v : Value}
    (h : Calls P f args (w.drewN n) fun e w' => e = .returned v ∧ w.drewN n = w') : Calls P f args (w.drewN n) fun e w'' => e = .returned v ∧ ∃ m, w'' = w.drewN m :=
  h.mono fun _ _ ⟨he, hm⟩ => ⟨he, n, hm.symm⟩
theorem byte_at {s : ByteArray} {l : List UInt8} (h : s.data.toList = l) (k : Nat) (hk : k < s.size) {c : UInt8} (hc : l[k]? = some c) : (s[k]'hk) = c := by
  have h1 : s.data.toList[k]? = some (s[k]'hk) := by rw [List.getElem?_eq_getElem (by simpa using hk)]; rfl
  rw [h, hc] at h1
  injection h1 with h1
  exact h1.symm
theorem ofE_13 {l : List UInt8} (hl : l.length = 13) (ha : l.all Dec.isDig = true) : Num.ofE l = Num.check (Dec.val l) := by unfold Num.ofE; rw [if_pos ⟨hl, ha⟩]

theorem ret_pair' {k k' : IntKind} {a b c d : Int} (h : a = b ∧ c = d) : Ending.returned (.tuple #[.int k b, .int k' d]) = .returned (.tuple #[.int k a, .int k' c]) := by rw [h.1, h.2]

set_option maxHeartbeats 400000 in
theorem rOf_any (s : ByteArray) (hs : s.size ≤ maxLen) (w : World) :
    Calls Try.prog 104 #[.string s] w fun e w' => e = .returned (.tuple #[.int .u64 (Num.ofN s.data.toList), .int .i64 (Num.ofE s.data.toList)]) ∧ ∃ n, w' = w.drewN n := by
  unfold maxLen at hs
  by_cases h13 : s.size = 13
  · have h13' : 13 ≤ s.size := by omega
    have h13'' : s.size ≤ 13 := by omega
    have hq : ((s.size : Int) != 13) = false := by simp; omega
    have H13 := Lib.hid h13; clear h13
    go_enter Try.func104, Try.ntmps104
    go_wp2
    go_loop [4] (fun i => ∃ k : Nat, k ≤ 13 ∧ i = .int .i64 k ∧ s.data.toList.all Dec.isDig = (s.data.toList.drop k).all Dec.isDig) (fun i => 13 - (intOf i).toNat)
    case atStart => exact ⟨0, Nat.zero_le _, rfl, rfl⟩
    case round =>
      obtain ⟨k, hk, rfl, hall⟩ := hrel
      have HA := Lib.hid hall; clear hall
      by_cases hlt : k < 13
      · have hlt' : k < s.size := by omega
        rcases (by omega : (s[k].toNat : Int) < 48 ∨ 57 < (s[k].toNat : Int) ∨ (48 ≤ (s[k].toNat : Int) ∧ (s[k].toNat : Int) ≤ 57)) with hb | hb | ⟨hb, hb'⟩
        case inr.inr =>
          have HD := Lib.hid (all_drop hlt' (isDig_yes hb hb'))
          go_wp2
          go_round
          case rel => exact ⟨k + 1, by omega, by go_num, by rw [HA.out, HD.out]; rfl⟩
          case measure => simp [intOf]; omega
        all_goals
          have HD := Lib.hid (all_drop hlt' (isDig_no (by omega)))
          go_wp2
          go_ret2
          exact ⟨ret_pair' (by obtain ⟨h4, h0⟩ := ofE_short (.inr (by rw [HA.out, HD.out]; rfl)); exact ⟨h0, h4⟩), 0, rfl⟩
      · have HD := Lib.hid (drop_end s k (by omega))
        have hall : s.data.toList.all Dec.isDig = true := by rw [HA.out, HD.out]; rfl
        obtain ⟨a, b, m, hl, hm, hda, hdb, hv, hv1, hv2⟩ := of13 s.data.toList (by simpa using H13.out) hall
        have hof := ofE_13 (by simpa using H13.out) hall
        have hE : Num.ofE s.data.toList = if a.toNat = 48 then 2 else if Dec.val (a :: m) % 7 = Dec.dval b then 0 else 11 := by
          rw [hof]
          unfold Num.check
          have d2 := Dec.dval_le hdb
          have q1 : Dec.val s.data.toList / 10 = Dec.val (a :: m) := by omega
          have q2 : Dec.val s.data.toList % 10 = Dec.dval b := by omega
          by_cases c1 : a.toNat = 48
          · rw [if_pos c1, if_pos (by omega)]
          · rw [if_neg c1, if_neg (by omega)]
            by_cases c2 : Dec.val (a :: m) % 7 = Dec.dval b
            · rw [if_pos c2, if_pos (by rw [← q1, ← q2] at c2; omega)]
            · rw [if_neg c2, if_neg (by rw [← q1, ← q2] at c2; omega)]
        have HE := Lib.hid hE
        have e0 := congrArg UInt8.toNat (byte_at hl 0 (by omega) (c := a) rfl)
        have e12 := congrArg UInt8.toNat (byte_at hl 12 (by omega) (c := b) (by rw [List.getElem?_append_right (by simp; omega)]; simp [hm]))
        have i2 := Dec.isDig_iff.1 hdb
        have hex : (s.extract 0 12).data.toList = a :: m := by
          have : (s.extract 0 12).data.toList = s.data.toList.take 12 := by simp [ByteArray.data_extract]
          rw [this, hl, List.take_append_of_le_length (by simp; omega), List.take_of_length_le (by simp; omega)]
        have hexa : (s.extract 0 12).data.toList.all Dec.isDig = true := by
          rw [hex]; rw [hl, List.all_append, Bool.and_eq_true] at hall; exact hall.1
        have HX := Lib.hid hex
        have HXA := Lib.hid hexa
        have HL := Lib.hid hall
        clear hl hall hof hE hex hexa HD HA hv hv1 hv2 hm
        by_cases c1 : a.toNat = 48
        · have c1' : ((a.toNat : Int) == 48) = true := by simp; omega
          have HC := Lib.hid c1; clear c1
          go_wp2
          go_ret2
          exact ⟨ret_pair' (by unfold Num.ofN; rw [HE.out, if_pos HC.out]; exact ⟨rfl, rfl⟩), 0, rfl⟩
        · have c1' : ((a.toNat : Int) == 48) = false := by simp; omega
          have HC := Lib.hid c1; clear c1
          go_wp2_with fail
          have H12 : Hid (s.data.toList.take 12 = a :: m) := Lib.hid (by rw [← HX.out]; simp [ByteArray.data_extract])
          by_cases c2 : Dec.val (a :: m) % 7 = Dec.dval b
          all_goals
            have c2' : (48 + (Dec.val (s.data.toList.take 12) : Int) % 7 != (b.toNat : Int)) = decide (¬ Dec.val (a :: m) % 7 = Dec.dval b) := by
              rw [H12.out, Bool.eq_iff_iff]
              simp
              unfold Dec.dval
              omega
            have C2 := Lib.hid c2
            simp only [c2, not_true, not_false_eq_true, decide_true, decide_false] at c2'
            clear c2
          · go_quiet ((go_at_call 95; exact quiet_left (rdigit_any _ HXA.out (by simp; omega) _)))
            go_wp2_with fail
            refine (rworth_any _ HL.out (by omega) _).mono ?_
            rintro e w2 ⟨rfl, rfl⟩
            go_wp2
            go_ret2
            exact ⟨ret_pair' (by unfold Num.ofN; rw [HE.out, if_neg HC.out, if_pos C2.out]; exact ⟨rfl, rfl⟩), _, rfl⟩
          · go_quiet ((go_at_call 95; exact quiet_left (rdigit_any _ HXA.out (by simp; omega) _)))
            go_wp2
            go_ret2
            exact ⟨ret_pair' (by unfold Num.ofN; rw [HE.out, if_neg HC.out, if_neg C2.out]; exact ⟨rfl, rfl⟩), _, rfl⟩
  · have hq : ((s.size : Int) != 13) = true := by simp; omega
    have H := Lib.hid (ofE_short (l := s.data.toList) (.inl (by simpa using h13)))
    clear h13
    go_enter Try.func104, Try.ntmps104
    go_wp2
    go_ret2
    exact ⟨ret_pair' ⟨H.out.2, H.out.1⟩, 0, rfl⟩
end Go.Proofs.Ytadabjkhiaidcaa
end
