/- Contracts: digits and decimals of package wire and of the reference. -/
import Derived.Test.YtfpcpnjegbmdbaaNumC
import Derived.Test.YtfpcpnjegbmdbaaWDecP
set_option linter.unusedSimpArgs false
set_option linter.unusedVariables false
namespace Go.Proofs.Ytfpcpnjegbmdbaa
open Go.RowKit

def digV (c base : Int) : Int :=
  if 48 ≤ c ∧ c ≤ 57 then (if base ≤ c - 48 then -1 else c - 48) else if 97 ≤ c ∧ c ≤ 102 then (if base ≤ c - 87 then -1 else c - 87) else -1

set_option maxHeartbeats 400000 in
theorem wdigit_any (c base : Int) (h0 : 0 ≤ c) (h1 : c ≤ 2147483647) (b0 : 0 ≤ base) (b1 : base ≤ 100) (w : World) :
    Calls Try.prog 54 #[.int .i32 c, .int .i64 base] w fun e w' => e = .returned (.int .i64 (digV c base)) ∧ w = w' := by
  have HD : Hid (digV c base = if 48 ≤ c ∧ c ≤ 57 then (if base ≤ c - 48 then -1 else c - 48) else if 97 ≤ c ∧ c ≤ 102 then (if base ≤ c - 87 then -1 else c - 87) else -1) := Lib.hid rfl
  rcases (by omega : c < 48 ∨ (48 ≤ c ∧ c ≤ 57) ∨ (57 < c ∧ c < 97) ∨ (97 ≤ c ∧ c ≤ 102) ∨ 102 < c) with h | ⟨h, h'⟩ | ⟨h, h'⟩ | ⟨h, h'⟩ | h
  all_goals
    go_enter Try.func54, Try.ntmps54
    go_wp2
  all_goals
    go_ret
    refine ⟨ret_int ?_, rfl⟩
    rw [HD.out]
    (repeat' split) <;> omega

set_option maxHeartbeats 1000000 in
theorem rText01_any (n : Int) (h0 : 0 ≤ n) (h1 : n ≤ 18446744073709551615) (w : World) :
    Calls Try.prog 26 #[.int .u64 n] w fun e w' => e = .returned (.string ⟨(Dec.digits n.toNat).toArray⟩) ∧ Below w.heap.size w w' := by
  obtain ⟨N, rfl⟩ := Int.eq_ofNat_of_zero_le h0
  simp only [Int.toNat_natCast]
  have HL : Hid ((Dec.digits N).length ≤ 20) := Lib.hid (Dec.digits_length_le N 19 (by omega))
  go_enter Try.func26, Try.ntmps26
  go_wp2
  go_loopw [0, 3] (fun n5 s wr => ∃ (N' : Nat) (acc : List UInt8), n5 = .int .u64 N' ∧ N' ≤ 18446744073709551615 ∧ s = .string ⟨acc.toArray⟩ ∧ Below w.heap.size w wr ∧ Dec.Dst N N' acc)
    (fun n5 s wr => (intOf n5).toNat + (1 - strLen s))
  case atStart => exact ⟨N, [], rfl, by omega, rfl, Below.refl _ _, .inl ⟨rfl, rfl⟩⟩
  case round =>
    obtain ⟨N', acc, rfl, hN, rfl, hb, hcase⟩ := hrel
    have hlen : acc.length ≤ 20 := by
      have := HL.out
      rcases hcase with ⟨rfl, rfl⟩ | ⟨_, _, ht⟩ | ⟨_, _, ht⟩
      · simp
      · rw [ht] at this; simp at this; omega
      · rw [ht] at this; exact this
    have hcv := conv_one (P := Try.prog) 29 9 5 Try.underlying29 Try.underlying5 Try.underlying9 (48 + (N' : Int) % 10) (Dec.dig N') (by rw [Dec.dig_toNat]; omega)
    by_cases hp : 0 < N'
    · have HT : Hid (Dec.Dst N (N' / 10) (Dec.dig N' :: acc)) := Lib.hid (by
        rcases hcase with ⟨rfl, rfl⟩ | ⟨_, _, ht⟩ | ⟨_, h0, _⟩
        · exact Dec.digits_step (by simp)
        · exact Dec.digits_step ht
        · omega)
      clear hcase
      go_wp2
      go_roundw
      case rel => exact ⟨N' / 10, Dec.dig N' :: acc, by go_num, by omega, cons_string _ _, hb.alloc hb.size _, HT.out⟩
      case measure => simp [intOf, strLen]; omega
    · obtain rfl : N' = 0 := by omega
      rcases hcase with ⟨rfl, rfl⟩ | ⟨_, h0, _⟩ | ⟨hne, _, ht⟩
      · have HT : Hid (Dec.Dst 0 (0 / 10) (Dec.dig 0 :: [])) := Lib.hid (Dec.digits_step (by simp))
        clear hcv
        have hcv := conv_one (P := Try.prog) 29 9 5 Try.underlying29 Try.underlying5 Try.underlying9 48 (Dec.dig 0) (by rw [Dec.dig_toNat]; rfl)
        go_wp2
        go_roundw
        case rel => exact ⟨0, Dec.dig 0 :: [], rfl, by omega, cons_string _ _, hb.alloc hb.size _, HT.out⟩
        case measure => simp [intOf, strLen, ByteArray.size]
      · omega
      · have HT := Lib.hid ht; clear ht
        go_wp2
        go_ret
        exact ⟨ret_string (by rw [HT.out]), hb⟩

set_option maxHeartbeats 400000 in
theorem rworth01_any (s : ByteArray) (hd : s.data.toList.all Dec.isDig = true) (hs : s.size ≤ 1000) (hm : Dec.val s.data.toList ≤ 18446744073709551615) (w : World) :
    Calls Try.prog 57 #[.string s] w fun e w' => e = .returned (.int .u64 (Dec.val s.data.toList : Int)) ∧ w = w' := by
  have HA := Lib.hid hd; clear hd
  have HM := Lib.hid hm; clear hm
  go_enter Try.func57, Try.ntmps57
  go_wp2
  go_loop [3, 4] (fun r i => ∃ (k a : Nat), k ≤ s.size ∧ i = .int .i64 k ∧ r = .int .u64 a ∧ a ≤ 18446744073709551615 ∧ Dec.val (s.data.toList.take k) = a) (fun _ i => s.size - (intOf i).toNat)
  case atStart => exact ⟨0, 0, Nat.zero_le _, rfl, rfl, by omega, rfl⟩
  case round =>
    obtain ⟨k, a, hk, rfl, rfl, ha, hv⟩ := hrel
    have HV := Lib.hid hv; clear hv
    by_cases hlt : k < s.size
    · have hdk : 48 ≤ (s[k].toNat : Int) ∧ (s[k].toNat : Int) ≤ 57 := by
        have := List.all_eq_true.1 HA.out s[k] (mem_of_lt s k hlt)
        have := Dec.isDig_iff.1 this
        omega
      obtain ⟨hd1, hd2⟩ := hdk
      have HS : Hid (Dec.val (s.data.toList.take (k + 1)) = 10 * Dec.val (s.data.toList.take k) + Dec.dval s[k]) := Lib.hid (by rw [take_snoc s k hlt, Dec.val_snoc])
      have hb : 10 * a + (s[k].toNat - 48) ≤ 18446744073709551615 := by
        have h2 := Dec.val_take_le s.data.toList (k + 1)
        rw [HS.out, HV.out] at h2
        unfold Dec.dval at h2
        have := HM.out
        omega
      go_wp2
      go_round
      case rel => exact ⟨k + 1, 10 * a + (s[k].toNat - 48), by omega, by go_num, by go_num, hb, by rw [HS.out, HV.out]; rfl⟩
      case measure => simp [intOf]; omega
    · have HE := Lib.hid (take_end s k hlt)
      go_wp2
      go_ret
      refine ⟨ret_int ?_, rfl⟩
      have := HV.out
      rw [HE.out] at this
      omega
theorem ret_boolD {a b : Bool} (h : a = b) : Ending.returned (.bool a) = .returned (.bool b) := by rw [h]
theorem str_lit (s : ByteArray) (l : List UInt8) : (s.toList == l) = decide (s.data.toList = l) := by
  rw [ByteArray.toList_eq, Bool.eq_iff_iff]; simp
theorem head_at (s : ByteArray) (h : 0 < s.size) : s.data.toList.getD 0 0 = s[0] := by
  have : s.data.toList[0]? = some s[0] := by rw [List.getElem?_eq_getElem (by simpa using h)]; rfl
  rw [List.getD_eq_getElem?_getD, this]; rfl

set_option maxHeartbeats 1000000 in
theorem rMayDecimal_any (s : ByteArray) (hs : s.size ≤ 1000) (w : World) :
    Calls Try.prog 55 #[.string s] w fun e w' => e = .returned (.bool (Dec.mayDec s.data.toList)) ∧ w = w' := by
  have HM : Hid (Dec.mayDec s.data.toList = (s.data.toList.all Dec.isDig && (decide (s.data.toList = [48]) || (decide (s.data.toList ≠ []) && decide (s.data.toList.getD 0 0 ≠ 48))))) := Lib.hid rfl
  go_enter Try.func55, Try.ntmps55
  go_wp2
  go_loop [3] (fun i => ∃ k : Nat, k ≤ s.size ∧ i = .int .i64 k ∧ s.data.toList.all Dec.isDig = (s.data.toList.drop k).all Dec.isDig) (fun i => s.size - (intOf i).toNat)
  case atStart => exact ⟨0, Nat.zero_le _, rfl, rfl⟩
  case round =>
    obtain ⟨k, hk, rfl, hall⟩ := hrel
    have HA := Lib.hid hall; clear hall
    by_cases hlt : k < s.size
    · have HD := Lib.hid (drop_step s k hlt)
      rcases (by omega : (s[k].toNat : Int) < 48 ∨ (57 < (s[k].toNat : Int)) ∨ (48 ≤ (s[k].toNat : Int) ∧ (s[k].toNat : Int) ≤ 57)) with hb | hb | ⟨hb, hb'⟩
      · have HS : Hid (s.data.toList.all Dec.isDig = false) := Lib.hid (by rw [HA.out, HD.out, List.all_cons, show Dec.isDig s[k] = false from by unfold Dec.isDig; simp; omega]; rfl)
        go_wp2
        go_ret
        exact ⟨ret_boolD (by rw [HM.out, HS.out]; rfl), rfl⟩
      · have HS : Hid (s.data.toList.all Dec.isDig = false) := Lib.hid (by rw [HA.out, HD.out, List.all_cons, show Dec.isDig s[k] = false from by unfold Dec.isDig; simp; omega]; rfl)
        go_wp2
        go_ret
        exact ⟨ret_boolD (by rw [HM.out, HS.out]; rfl), rfl⟩
      · have HS : Hid (s.data.toList.all Dec.isDig = (s.data.toList.drop (k + 1)).all Dec.isDig) := Lib.hid (by rw [HA.out, HD.out, List.all_cons, Dec.isDig_iff.2 (by omega)]; rfl)
        go_wp2
        go_round
        case rel => exact ⟨k + 1, by omega, by go_num, HS.out⟩
        case measure => simp [intOf]; omega
    · have HS : Hid (s.data.toList.all Dec.isDig = true) := Lib.hid (by rw [HA.out, drop_end s k hlt]; rfl)
      by_cases h0 : s.size = 0
      · have hl : s.data.toList = [] := by apply List.eq_nil_of_length_eq_zero; simpa using h0
        have HF : Hid (Dec.mayDec s.data.toList = false) := Lib.hid (by rw [hl]; rfl)
        have hs0 := str_lit s [48]
        have hs1 := str_lit s []
        rw [hl] at hs0 hs1
        clear hl
        go_wp2
        go_ret
        exact ⟨ret_boolD HF.out.symm, rfl⟩
      · have hp : 0 < s.size := by omega
        have hne : s.data.toList ≠ [] := by intro e; have := congrArg List.length e; rw [List.length_nil] at this; exact h0 (by show s.data.size = 0; simpa using this)
        have HF : Hid (Dec.mayDec s.data.toList = (decide (s.data.toList = [48]) || decide (s[0] ≠ 48))) := Lib.hid (by rw [HM.out, HS.out, head_at s hp]; simp [hne])
        have hs0 := str_lit s [48]
        have hs1 := str_lit s []
        obtain ⟨q, hq⟩ : ∃ q, decide (s.data.toList = [48]) = q := ⟨_, rfl⟩
        rw [show decide (s.data.toList = []) = false from by simpa using hne] at hs1
        rw [hq] at hs0 HF
        clear hq hne
        have H48 : Hid (decide (s[0] ≠ 48) = ((s[0].toNat : Int) != 48)) := Lib.hid (by
          rw [Bool.eq_iff_iff, decide_eq_true_eq, bne_iff_ne]
          constructor
          · intro h e; exact h (UInt8.toNat_inj.1 (by show s[0].toNat = 48; omega))
          · intro h e; rw [e] at h; exact h rfl)
        cases q
        all_goals
          go_wp2
          go_ret
          exact ⟨ret_boolD (by rw [HF.out, H48.out]; rfl), rfl⟩

set_option maxHeartbeats 1000000 in
theorem rAbove_any (s : ByteArray) (hd : Dec.mayDec s.data.toList = true) (hs : s.size ≤ 1000) (most : Int) (h0 : 0 ≤ most) (h1 : most ≤ 18446744073709551615) (w : World) :
    Calls Try.prog 56 #[.string s, .int .u64 most] w fun e w' => e = .returned (.bool (decide (most.toNat < Dec.val s.data.toList))) ∧ Below w.heap.size w w' := by
  have HA := Lib.hid (Dec.above_iff hd most.toNat)
  have HL : Hid ((Dec.digits most.toNat).length ≤ 20) := Lib.hid (Dec.digits_length_le most.toNat 19 (by omega))
  have HT := Lib.hid (rText01_any most h0 h1)
  generalize Dec.digits most.toNat = t at *
  generalize decide (most.toNat < Dec.val s.data.toList) = r at *
  have e1 : (⟨t.toArray⟩ : ByteArray).size = t.length := by simp [ByteArray.size]
  have e2 : (⟨t.toArray⟩ : ByteArray).toList = t := by rw [ByteArray.toList_eq]
  have e3 : s.toList = s.data.toList := ByteArray.toList_eq _
  have e4 : s.data.toList.length = s.size := by show s.data.toList.length = s.data.size; simp
  have HA2 : Hid ((decide (t.length < s.size) || (decide (s.size = t.length) && !(Op.bytesLess s.toList (⟨t.toArray⟩ : ByteArray).toList || s.toList == (⟨t.toArray⟩ : ByteArray).toList))) = r) := Lib.hid (by rw [e2, e3, ← e4]; exact HA.out)
  have hl := HL.out
  generalize hm : t.length = m at *
  clear HA HL hm e2 e3 e4
  generalize (⟨t.toArray⟩ : ByteArray) = T at *
  generalize hq : (Op.bytesLess s.toList T.toList || s.toList == T.toList) = q at *
  have HQ := Lib.hid hq; clear hq
  go_enter Try.func56, Try.ntmps56
  go_wp2_with fail
  refine (HT.out w).mono ?_
  rintro e w1 ⟨rfl, hb1⟩
  have hop : binOp .gtr 9 (.string s) (.string T) = pure (.bool !q) := by rw [binOp_string_gtr, HQ.out]
  rcases Nat.lt_trichotomy m s.size with h | h | h
  · go_wp2
    go_ret
    exact ⟨ret_boolD (by rw [← HA2.out]; simp [h]), hb1⟩
  · go_wp2
    go_ret
    exact ⟨ret_boolD (by rw [← HA2.out]; simp [h]), hb1⟩
  · go_wp2
    go_ret
    exact ⟨ret_boolD (by rw [← HA2.out]; have h2 : ¬ m < s.size := by omega
                         have h3 : ¬ s.size = m := by omega
                         simp [h2, h3]), hb1⟩

theorem two_ret {P : Program} {a b c d : Int} {k k' : IntKind} (h1 : a = b) (h2 : c = d) : Ending.returned (.tuple #[.int k a, .int k' c]) = .returned (.tuple #[.int k b, .int k' d]) := by rw [h1, h2]

set_option maxHeartbeats 1000000 in
theorem rDecimal_any (s : ByteArray) (hs : s.size ≤ 1000) (most : Int) (h0 : 0 ≤ most) (h1 : most ≤ 18446744073709551615) (w : World) :
    Calls Try.prog 25 #[.string s, .int .u64 most] w fun e w' => e = .returned (.tuple #[.int .u64 (Dec.decN s.data.toList most.toNat : Int), .int .i64 (Dec.decE s.data.toList most.toNat : Int)]) ∧ Below w.heap.size w w' := by
  have HM := Lib.hid (rMayDecimal_any s hs)
  have HE : Hid (Dec.decE s.data.toList most.toNat = if Dec.mayDec s.data.toList = true then (if most.toNat < Dec.val s.data.toList then 5 else 0) else 4) := Lib.hid rfl
  have HN : Hid (Dec.decN s.data.toList most.toNat = if Dec.decE s.data.toList most.toNat = 0 then Dec.val s.data.toList else 0) := Lib.hid rfl
  by_cases hm : Dec.mayDec s.data.toList = true
  · have HA := Lib.hid (rAbove_any s hm hs most h0 h1)
    rw [hm] at HM
    rw [if_pos hm] at HE
    have hd := Dec.mayDec_all hm
    by_cases hv : most.toNat < Dec.val s.data.toList
    · rw [if_pos hv] at HE
      rw [HE.out] at HN
      rw [show decide (most.toNat < Dec.val s.data.toList) = true from by simpa using hv] at HA
      clear hm hd hv
      have HN' : Hid (Dec.decN s.data.toList most.toNat = 0) := Lib.hid (by rw [HN.out]; rfl)
      go_enter Try.func25, Try.ntmps25
      go_wp2_with fail
      refine (HM.out w).mono ?_
      rintro e w1 ⟨rfl, rfl⟩
      go_wp2_with fail
      refine (HA.out w).mono ?_
      rintro e w2 ⟨rfl, hb2⟩
      go_wp2
      go_ret2
      exact ⟨by rw [HE.out, HN'.out]; rfl, hb2⟩
    · rw [if_neg hv] at HE
      rw [HE.out] at HN
      rw [show decide (most.toNat < Dec.val s.data.toList) = false from by simpa using hv] at HA
      have HW := Lib.hid (rworth01_any s hd hs (by omega))
      clear hm hd hv
      have HN' : Hid (Dec.decN s.data.toList most.toNat = Dec.val s.data.toList) := Lib.hid (by rw [HN.out]; rfl)
      go_enter Try.func25, Try.ntmps25
      go_wp2_with fail
      refine (HM.out w).mono ?_
      rintro e w1 ⟨rfl, rfl⟩
      go_wp2_with fail
      refine (HA.out w).mono ?_
      rintro e w2 ⟨rfl, hb2⟩
      go_wp2_with fail
      refine (HW.out w2).mono ?_
      rintro e w3 ⟨rfl, rfl⟩
      go_wp2
      go_ret2
      exact ⟨by rw [HE.out, HN'.out]; rfl, hb2⟩
  · rw [if_neg hm] at HE
    rw [HE.out] at HN
    rw [show Dec.mayDec s.data.toList = false from by simpa using hm] at HM
    have HN' : Hid (Dec.decN s.data.toList most.toNat = 0) := Lib.hid (by rw [HN.out]; rfl)
    clear hm
    go_enter Try.func25, Try.ntmps25
    go_wp2_with fail
    refine (HM.out w).mono ?_
    rintro e w1 ⟨rfl, rfl⟩
    go_wp2
    go_ret2
    exact ⟨by rw [HE.out, HN'.out]; rfl, Below.refl _ _⟩
theorem digV_dig {c : UInt8} (h : Dec.isDig c = true) : digV (c.toNat : Int) 10 = (Dec.dval c : Int) := by
  have := Dec.isDig_iff.1 h
  unfold digV Dec.dval
  rw [if_pos (by omega), if_neg (by omega)]; omega
theorem digV_not {c : Int} (h : ¬ (48 ≤ c ∧ c ≤ 57)) : digV c 10 = -1 := by
  unfold digV
  rw [if_neg h]
  split
  · rw [if_pos (by omega)]
  · rfl
theorem u64_wrap_lo (x : Int) : 0 ≤ IntKind.u64.wrap x := by rw [IntKind.wrap_u64]; omega
theorem u64_wrap_hi (x : Int) : IntKind.u64.wrap x ≤ 18446744073709551615 := by rw [IntKind.wrap_u64]; omega
/-- what the loop of Decimal knows behind k bytes -/
def DRel (l : List UInt8) (k : Nat) (nn : Int) (gg : Bool) : Prop :=
  l.all Dec.isDig = (l.drop k).all Dec.isDig ∧ 0 ≤ nn ∧ nn ≤ 18446744073709551615 ∧ (gg = true → 18446744073709551616 ≤ Dec.val (l.take k)) ∧ (gg = false → nn = (Dec.val (l.take k) : Int))

set_option maxHeartbeats 2000000 in
theorem wDecimal_any (s : ByteArray) (hs : s.size ≤ 1000) (most : Int) (h0 : 0 ≤ most) (h1 : most ≤ 18446744073709551615) (w : World) :
    Calls Try.prog 24 #[.string s, .int .u64 most] w fun e w' => e = .returned (.tuple #[.int .u64 (Dec.decN s.data.toList most.toNat : Int), .int .i64 (Dec.decE s.data.toList most.toNat : Int)]) ∧ Below w.heap.size w w' := by
  have HE : Hid (Dec.decE s.data.toList most.toNat = if Dec.mayDec s.data.toList = true then (if most.toNat < Dec.val s.data.toList then 5 else 0) else 4) := Lib.hid rfl
  have HN : Hid (Dec.decN s.data.toList most.toNat = if Dec.decE s.data.toList most.toNat = 0 then Dec.val s.data.toList else 0) := Lib.hid rfl
  have HM : Hid (Dec.mayDec s.data.toList = (s.data.toList.all Dec.isDig && (decide (s.data.toList = [48]) || (decide (s.data.toList ≠ []) && decide (s.data.toList.getD 0 0 ≠ 48))))) := Lib.hid rfl
  have HNO : Hid (Dec.mayDec s.data.toList = false → Dec.decE s.data.toList most.toNat = 4 ∧ Dec.decN s.data.toList most.toNat = 0) := Lib.hid (fun h => by
    have e : Dec.decE s.data.toList most.toNat = 4 := by rw [HE.out, h]; rfl
    exact ⟨e, by rw [HN.out, e]; rfl⟩)
  by_cases hz : s.size = 0
  · have hl : s.data.toList = [] := by apply List.eq_nil_of_length_eq_zero; simpa using hz
    have HF := Lib.hid (HNO.out (by rw [hl]; rfl))
    have hs1 := str_lit s []
    rw [hl] at hs1
    clear hl
    go_enter Try.func24, Try.ntmps24
    go_wp2
    go_ret2
    exact ⟨by rw [HF.out.1, HF.out.2]; rfl, Below.refl _ _⟩
  · have hp : 0 < s.size := by omega
    have hne : s.data.toList ≠ [] := by intro e; have := congrArg List.length e; rw [List.length_nil] at this; exact hz (by show s.data.size = 0; simpa using this)
    have hs0 := str_lit s [48]
    have hs1 := str_lit s []
    rw [show decide (s.data.toList = []) = false from by simpa using hne] at hs1
    have H48 : Hid (decide (s[0] ≠ 48) = ((s[0].toNat : Int) != 48)) := Lib.hid (by
      rw [Bool.eq_iff_iff, decide_eq_true_eq, bne_iff_ne]
      constructor
      · intro h e; exact h (UInt8.toNat_inj.1 (by show s[0].toNat = 48; omega))
      · intro h e; rw [e] at h; exact h rfl)
    have HF : Hid (Dec.mayDec s.data.toList = (s.data.toList.all Dec.isDig && (decide (s.data.toList = [48]) || ((s[0].toNat : Int) != 48)))) := Lib.hid (by rw [HM.out, head_at s hp, H48.out]; simp [hne])
    generalize hq : decide (s.data.toList = [48]) = q at *
    have HQ := Lib.hid hq; clear hq hne
    by_cases hlead : q = false ∧ (s[0].toNat : Int) = 48
    · obtain ⟨rfl, h48⟩ := hlead
      have HX := Lib.hid (HNO.out (by rw [HF.out, h48]; simp))
      go_enter Try.func24, Try.ntmps24
      go_wp2
      go_ret2
      exact ⟨by rw [HX.out.1, HX.out.2]; rfl, Below.refl _ _⟩
    · have HY : Hid (Dec.mayDec s.data.toList = s.data.toList.all Dec.isDig) := Lib.hid (by
        rw [HF.out]
        cases q
        · have : ((s[0].toNat : Int) != 48) = true := by rw [bne_iff_ne]; exact fun e => hlead ⟨rfl, e⟩
          rw [this]; simp
        · simp)
      clear HF
      go_enter Try.func24, Try.ntmps24
      have hcut : q = true ∨ (q = false ∧ ¬ (s[0].toNat : Int) = 48) := by
        cases q
        · exact .inr ⟨rfl, fun e => hlead ⟨rfl, e⟩⟩
        · exact .inl rfl
      clear hlead
      rcases hcut with rfl | ⟨rfl, h48⟩
      all_goals
        go_wp2
      all_goals
        go_loopw [6, 7] (fun n gg wr => ∃ (k : Nat) (nn : Int) (b : Bool), k ≤ s.size ∧ wr = w.iter s k ∧ n = .int .u64 nn ∧ gg = .bool b ∧ DRel s.data.toList k nn b) (fun _ _ wr => s.size - wr.iterPos w.heap.size)
        case atStart => exact ⟨0, 0, false, Nat.zero_le _, rfl, rfl, rfl, rfl, by omega, by omega, fun h => absurd h (by decide), fun _ => rfl⟩
        case round =>
          clear hs0 hs1
          obtain ⟨k, nn, b, hk, rfl, rfl, rfl, hrel⟩ := hrel
          have HR := Lib.hid hrel
          have hn0 := hrel.2.1
          have hn1 := hrel.2.2.1
          clear hrel
          by_cases hlt : k < s.size
          · have HD := Lib.hid (drop_step s k hlt)
            by_cases ha : (s[k]'hlt).toNat < 128
            · have hnx : ∀ ty, (Instr.next (.pointer (some ⟨w.heap.size, 0, none⟩)) true ty).run Try.prog (w.iter s k) = _ := fun ty => run_next_ascii w s k ty hlt ha
              by_cases hdg : Dec.isDig s[k] = true
              · have HC := Lib.hid (wdigit_any (s[k].toNat : Int) 10 (by omega) (by omega) (by omega) (by omega))
                rw [digV_dig hdg] at HC
                have hd9 := Dec.dval_le hdg
                have HV : Hid (Dec.val (s.data.toList.take (k + 1)) = 10 * Dec.val (s.data.toList.take k) + Dec.dval s[k]) := Lib.hid (by rw [take_snoc s k hlt, Dec.val_snoc])
                have HA : Hid (s.data.toList.all Dec.isDig = (s.data.toList.drop (k + 1)).all Dec.isDig) := Lib.hid (by rw [HR.out.1, HD.out, List.all_cons, hdg]; rfl)
                clear hdg
                generalize Dec.dval s[k] = d at *
                cases b
                · have HNV := Lib.hid (HR.out.2.2.2.2 rfl)
                  by_cases hgr : (18446744073709551615 - (d : Int)) / 10 < nn
                  · go_wp2_with (first | (go_at_call 54; refine (HC.out _).mono ?_; rintro e w' ⟨rfl, rfl⟩))
                    go_roundw
                    case rel => exact ⟨k + 1, _, true, by omega, rfl, rfl, rfl, HA.out, u64_wrap_lo _, u64_wrap_hi _, fun _ => by rw [HV.out]; have := HNV.out; omega, fun h => absurd h (by decide)⟩
                    case measure => simp; omega
                  · have hsm : 10 * nn + (d : Int) ≤ 18446744073709551615 := by omega
                    go_wp2_with (first | (go_at_call 54; refine (HC.out _).mono ?_; rintro e w' ⟨rfl, rfl⟩))
                    go_roundw
                    case rel => exact ⟨k + 1, 10 * nn + (d : Int), false, by omega, rfl, by go_num, by simp; omega, HA.out, by omega, hsm, fun h => absurd h (by decide), fun _ => by rw [HV.out, HNV.out]; omega⟩
                    case measure => simp; omega
                · have HNV := Lib.hid (HR.out.2.2.2.1 rfl)
                  go_wp2_with (first | (go_at_call 54; refine (HC.out _).mono ?_; rintro e w' ⟨rfl, rfl⟩))
                  go_roundw
                  case rel => exact ⟨k + 1, _, true, by omega, rfl, rfl, rfl, HA.out, u64_wrap_lo _, u64_wrap_hi _, fun _ => by rw [HV.out]; have := HNV.out; omega, fun h => absurd h (by decide)⟩
                  case measure => simp; omega
              · have HX := Lib.hid (HNO.out (by rw [HY.out, HR.out.1, HD.out, List.all_cons, show Dec.isDig s[k] = false from by simpa using hdg]; rfl))
                have HC := Lib.hid (wdigit_any (s[k].toNat : Int) 10 (by omega) (by omega) (by omega) (by omega))
                rw [digV_not (fun h => hdg (Dec.isDig_iff.2 (by omega)))] at HC
                clear hdg
                go_wp2_with (first | (go_at_call 54; refine (HC.out _).mono ?_; rintro e w' ⟨rfl, rfl⟩))
                go_ret2
                exact ⟨by rw [HX.out.1, HX.out.2]; rfl, iter_below _ _ _⟩
            · have hnx : ∀ ty, (Instr.next (.pointer (some ⟨w.heap.size, 0, none⟩)) true ty).run Try.prog (w.iter s k) = _ := fun ty => run_next_any w s k ty hlt
              have hh := (decode_high s k hlt (by omega)).1
              have hh2 := Go.decode_le s k
              have HX := Lib.hid (HNO.out (by rw [HY.out, HR.out.1, HD.out, List.all_cons, show Dec.isDig s[k] = false from by unfold Dec.isDig; simp; omega]; rfl))
              have HC := Lib.hid (wdigit_any ((Utf8.decode s k).1 : Int) 10 (by omega) (by omega) (by omega) (by omega))
              rw [digV_not (by omega)] at HC
              generalize (Utf8.decode s k).1 = rr at *
              go_wp2_with (first | (go_at_call 54; refine (HC.out _).mono ?_; rintro e w' ⟨rfl, rfl⟩))
              go_ret2
              exact ⟨by rw [HX.out.1, HX.out.2]; rfl, iter_below _ _ _⟩
          · have hnx : ∀ ty, (Instr.next (.pointer (some ⟨w.heap.size, 0, none⟩)) true ty).run Try.prog (w.iter s k) = _ := fun ty => run_next_end w s k ty hlt
            have HT := Lib.hid (take_end s k hlt)
            have HMD : Hid (Dec.mayDec s.data.toList = true) := Lib.hid (by rw [HY.out, HR.out.1, drop_end s k hlt]; rfl)
            have hE := HE.out
            rw [if_pos HMD.out] at hE
            have HR' := HR.out.2.2.2
            rw [HT.out] at HR'
            have HFAR : Hid (most.toNat < Dec.val s.data.toList → Dec.decE s.data.toList most.toNat = 5 ∧ Dec.decN s.data.toList most.toNat = 0) := Lib.hid (fun h => by
              rw [if_pos h] at hE
              exact ⟨hE, by rw [HN.out, hE]; rfl⟩)
            have HIN : Hid (¬ most.toNat < Dec.val s.data.toList → Dec.decE s.data.toList most.toNat = 0 ∧ Dec.decN s.data.toList most.toNat = Dec.val s.data.toList) := Lib.hid (fun h => by
              rw [if_neg h] at hE
              exact ⟨hE, by rw [HN.out, hE]; rfl⟩)
            clear hE
            cases b
            · have HNV := Lib.hid (HR'.2 rfl)
              clear HR'
              by_cases hm : most < nn
              · have HX := Lib.hid (HFAR.out (by have := HNV.out; omega))
                go_wp2
                go_ret2
                exact ⟨by rw [HX.out.1, HX.out.2]; rfl, iter_below _ _ _⟩
              · have HX := Lib.hid (HIN.out (by have := HNV.out; omega))
                go_wp2
                go_ret2
                exact ⟨by rw [HX.out.1, HX.out.2, ← HNV.out]; rfl, iter_below _ _ _⟩
            · have HNV := Lib.hid (HR'.1 rfl)
              clear HR'
              have HX := Lib.hid (HFAR.out (by have := HNV.out; omega))
              go_wp2
              go_ret2
              exact ⟨by rw [HX.out.1, HX.out.2]; rfl, iter_below _ _ _⟩
end Go.Proofs.Ytfpcpnjegbmdbaa
