/- Contracts of the reference's Text, Make, Of, Check, Parts, MayStock, In, and of the program's MayStock, In. Contracts of the reference's Check, Parts, MayStock, In, and of the program's MayStock, In. Contracts: the ticket package's small functions: day, some, numbered, other, holder, status. -/
import Derived.Test.YtbmphlpmipkpcaaGreatRma7
import Derived.Test.YtbmphlpmipkpcaaGreatRma3
import Derived.Deep.QuietTactic
import Derived.BigQuiet

section
set_option linter.unusedSimpArgs false
set_option linter.unusedVariables false
namespace Go.Proofs.YtbmphlpmipkpcaaGreat
open Go.RowKit

set_option maxHeartbeats 400000 in
theorem rmayCarrier_any (c : Int) (w : World) :
    Calls Tryz.prog 102 #[.int .i64 c] w fun e w' => e = .returned (.bool (Num.mayC c)) ∧ w = w' := by
  go_enter Tryz.func102, Tryz.ntmps102
  go_wp2
  all_goals
    go_ret
    refine ⟨ret_bool ?_, rfl⟩
    unfold Num.mayC
    simp; omega

theorem app_string (a b : List UInt8) : (⟨a.toArray⟩ ++ ⟨b.toArray⟩ : ByteArray) = ⟨(a ++ b).toArray⟩ := by
  apply ByteArray.ext; simp
theorem size_string (a : List UInt8) : (⟨a.toArray⟩ : ByteArray).size = a.length := by simp [ByteArray.size]

set_option maxHeartbeats 400000 in
theorem rText_any (c s : Int) (c0 : 0 ≤ c) (c1 : c ≤ 999) (s0 : 0 ≤ s) (s1 : s ≤ 999999999) (w : World) :
    Calls Tryz.prog 104 #[.int .i64 c, .int .i64 s] w fun e w' => e = .returned (.string ⟨(Num.textOf c.toNat s.toNat).toArray⟩) ∧ Below w.heap.size w w' := by
  go_enter Tryz.func104, Tryz.ntmps104
  go_wp2_with fail
  refine (rtext_any _ _ c0 (by omega) (by omega) (by omega) _).mono ?_
  rintro e w1 ⟨rfl, hb1⟩
  rw [show (3 : Int).toNat = 3 from rfl]
  go_wp2_with fail
  refine (rtext_any _ _ s0 (by omega) (by omega) (by omega) _).mono ?_
  rintro e w2 ⟨rfl, hb2⟩
  rw [show (9 : Int).toNat = 9 from rfl]
  have hl3 := Dec.text_length c.toNat 3
  have hl9 := Dec.text_length s.toNat 9
  have hz : (⟨(Dec.text c.toNat 3 ++ Dec.text s.toNat 9).toArray⟩ : ByteArray).size = 12 := by rw [size_string, List.length_append, hl3, hl9]
  go_wp2_with fail
  rw [app_string]
  have hall : (Dec.text c.toNat 3 ++ Dec.text s.toNat 9).all Dec.isDig = true := by rw [List.all_append, Dec.text_all, Dec.text_all]; rfl
  refine (rdigit_any _ (by simpa using hall) (by omega) _).mono ?_
  rintro e w3 ⟨rfl, rfl⟩
  have hcv := conv_one (P := Tryz.prog) 47 9 5 Tryz.underlying47 Tryz.underlying5 Tryz.underlying9 (48 + (Dec.val (Dec.text c.toNat 3 ++ Dec.text s.toNat 9) : Int) % 7) (Dec.dig ((c.toNat * 1000000000 + s.toNat) % 7))
    (by rw [Dec.dig_toNat, Num.half_val _ _ (by omega) (by omega)]; omega)
  have HT : Hid (Num.textOf c.toNat s.toNat = (Dec.text c.toNat 3 ++ Dec.text s.toNat 9) ++ [Dec.dig ((c.toNat * 1000000000 + s.toNat) % 7)]) := Lib.hid rfl
  generalize Dec.text c.toNat 3 ++ Dec.text s.toNat 9 = t at *
  go_wp2
  go_ret
  refine ⟨ret_string ?_, ((hb1.trans (hb2.mono hb1.size)).alloc (Nat.le_trans hb1.size hb2.size) _)⟩
  rw [HT.out]
  exact app_string _ _

set_option maxHeartbeats 400000 in
theorem rMake_any (c s : Int) (w : World) :
    Calls Tryz.prog 48 #[.int .i64 c, .int .i64 s] w fun e w' => e = .returned (.tuple #[.int .u64 (Num.mkN c s), .bool (Num.mayC c && Num.mayS s)]) ∧ Below w.heap.size w w' := by
  by_cases h : (Num.mayC c && Num.mayS s) = true
  · have h1 : Num.mkN c s = Num.make c s := by unfold Num.mkN; rw [if_pos h]
    rw [h1, h]; clear h1
    rw [Bool.and_eq_true] at h
    obtain ⟨hc, hs⟩ := h
    have bc := Num.mayC_iff.1 hc
    have bs := Num.mayS_iff.1 hs
    have hv := Num.make_val c.toNat s.toNat (by omega) (by omega)
    rw [show ((c.toNat : Nat) : Int) = c from by omega, show ((s.toNat : Nat) : Int) = s from by omega] at hv
    have HV := Lib.hid hv; clear hv
    have HA := Lib.hid (Num.textOf_all c.toNat s.toNat)
    have HL := Lib.hid (Num.textOf_length c.toNat s.toNat)
    go_enter Tryz.func48, Tryz.ntmps48
    go_wp2_with (first | (go_at_call 102; refine (rmayCarrier_any _ _).mono ?_; rintro e w' ⟨rfl, rfl⟩))
    refine (rText_any c s (by omega) (by omega) (by omega) (by omega) _).mono ?_
    rintro e w1 ⟨rfl, hb1⟩
    generalize Num.textOf c.toNat s.toNat = t at *
    go_wp2_with fail
    refine (rworth_any _ (by simpa using HA.out) (by rw [size_string]; have := HL.out; omega) _).mono ?_
    rintro e w2 ⟨rfl, rfl⟩
    go_wp2
    go_ret2
    refine ⟨?_, hb1⟩
    show Ending.returned (.tuple #[.int .u64 (Dec.val t : Int), .bool true]) = _
    rw [HV.out]
  · have h1 : Num.mkN c s = 0 := by unfold Num.mkN; rw [if_neg h]
    rw [h1, Bool.eq_false_iff.2 h]; clear h1
    have H := Lib.hid h; clear h
    by_cases hs : 0 ≤ s ∧ s ≤ 999999999
    · have hc : Num.mayC c = false := by
        have := H.out
        rw [Num.mayS_iff.2 hs, Bool.and_true] at this
        simpa using this
      obtain ⟨hs0, hs1⟩ := hs
      go_enter Tryz.func48, Tryz.ntmps48
      go_wp2_with (first | (go_at_call 102; refine (rmayCarrier_any _ _).mono ?_; rintro e w' ⟨rfl, rfl⟩))
      go_ret2
      exact ⟨rfl, Below.refl _ _⟩
    · have hs' : s < 0 ∨ 999999999 < s := by omega
      clear hs
      cases hc : Num.mayC c
      all_goals
        rcases hs' with hs' | hs'
        all_goals
          go_enter Tryz.func48, Tryz.ntmps48
          go_wp2_with (first | (go_at_call 102; refine (rmayCarrier_any _ _).mono ?_; rintro e w' ⟨rfl, rfl⟩))
          go_ret2
          exact ⟨rfl, Below.refl _ _⟩

theorem all_drop {s : ByteArray} {k : Nat} (h : k < s.size) {b : Bool} (hb : Dec.isDig s[k] = b) : (s.data.toList.drop k).all Dec.isDig = (b && (s.data.toList.drop (k + 1)).all Dec.isDig) := by
  rw [drop_step s k h, List.all_cons, hb]
theorem isDig_no {c : UInt8} (h : (c.toNat : Int) < 48 ∨ 57 < (c.toNat : Int)) : Dec.isDig c = false := by
  rw [Bool.eq_false_iff]; intro h'; have := Dec.isDig_iff.1 h'; omega
theorem isDig_yes {c : UInt8} (h : 48 ≤ (c.toNat : Int)) (h' : (c.toNat : Int) ≤ 57) : Dec.isDig c = true := Dec.isDig_iff.2 (by omega)

/-- a text of 13 digits: what its number says of its signs -/
theorem of13 (l : List UInt8) (hl : l.length = 13) (ha : l.all Dec.isDig = true) :
    ∃ (a b : UInt8) (m : List UInt8), l = (a :: m) ++ [b] ∧ m.length = 11 ∧ Dec.isDig a = true ∧ Dec.isDig b = true ∧ Dec.val l = 10 * Dec.val (a :: m) + Dec.dval b ∧ Dec.val l < 10000000000000 ∧
      (Dec.val l < 1000000000000 ↔ a.toNat = 48) := by
  match l, hl with
  | a :: r, hl =>
    have hr : r ≠ [] := by intro e; subst e; simp at hl
    have e := List.dropLast_concat_getLast hr
    have hm : r.dropLast.length = 11 := by simp at hl ⊢; omega
    generalize r.dropLast = m at *
    generalize r.getLast hr = b at *
    subst e
    have ha' : Dec.isDig a = true ∧ m.all Dec.isDig = true ∧ Dec.isDig b = true := by simpa using ha
    have v1 : Dec.val (a :: m ++ [b]) = 10 * Dec.val (a :: m) + Dec.dval b := Dec.val_snoc (a :: m) b
    have v2 : Dec.val (a :: m) = Dec.dval a * 10 ^ 11 + Dec.val m := by
      have := Dec.val_append [a] m
      rw [hm] at this
      have h1 : Dec.val [a] = Dec.dval a := by show 10 * 0 + Dec.dval a = _; omega
      rw [h1] at this
      exact this
    have v3 := Dec.val_lt m ha'.2.1
    rw [hm] at v3
    have d1 := Dec.dval_le ha'.1
    have d2 := Dec.dval_le ha'.2.2
    have i1 := Dec.isDig_iff.1 ha'.1
    refine ⟨a, b, m, rfl, hm, ha'.1, ha'.2.2, v1, ?_, ?_⟩
    · rw [show a :: (m ++ [b]) = a :: m ++ [b] from rfl]; omega
    · rw [show a :: (m ++ [b]) = a :: m ++ [b] from rfl]
      unfold Dec.dval at *
      omega

theorem ofE_short {l : List UInt8} (h : l.length ≠ 13 ∨ l.all Dec.isDig = false) : Num.ofE l = 4 ∧ Num.ofN l = 0 := by
  have h4 : Num.ofE l = 4 := by
    unfold Num.ofE
    rw [if_neg]
    rintro ⟨h1, h2⟩
    rcases h with h | h
    · exact h h1
    · rw [h2] at h; cases h
  exact ⟨h4, by unfold Num.ofN; rw [h4]; rfl⟩

/-- a contract 'w = w'' inside a region that draws -/
theorem quiet_left {P : Program} {f : FuncId} {args : Array Value} {w : World} {n : Nat} {v : Value}
    (h : Calls P f args (w.drewN n) fun e w' => e = .returned v ∧ w.drewN n = w') : Calls P f args (w.drewN n) fun e w'' => e = .returned v ∧ ∃ m, w'' = w.drewN m :=
  h.mono fun _ _ ⟨he, hm⟩ => ⟨he, n, hm.symm⟩
theorem byte_at {s : ByteArray} {l : List UInt8} (h : s.data.toList = l) (k : Nat) (hk : k < s.size) {c : UInt8} (hc : l[k]? = some c) : (s[k]'hk) = c := by
  have h1 : s.data.toList[k]? = some (s[k]'hk) := by rw [List.getElem?_eq_getElem (by simpa using hk)]; rfl
  rw [h, hc] at h1
  injection h1 with h1
  exact h1.symm
theorem ofE_13 {l : List UInt8} (hl : l.length = 13) (ha : l.all Dec.isDig = true) : Num.ofE l = Num.check (Dec.val l) := by unfold Num.ofE; rw [if_pos ⟨hl, ha⟩]

theorem ret_pair' {k k' : IntKind} {a b c d : Int} (h : a = b ∧ c = d) : Ending.returned (.tuple #[.int k b, .int k' d]) = .returned (.tuple #[.int k a, .int k' c]) := by rw [h.1, h.2]

set_option maxHeartbeats 400000 in
theorem rOf_any (s : ByteArray) (hs : s.size ≤ maxLen) (w : World) :
    Calls Tryz.prog 192 #[.string s] w fun e w' => e = .returned (.tuple #[.int .u64 (Num.ofN s.data.toList), .int .i64 (Num.ofE s.data.toList)]) ∧ ∃ n, w' = w.drewN n := by
  unfold maxLen at hs
  by_cases h13 : s.size = 13
  · have h13' : 13 ≤ s.size := by omega
    have h13'' : s.size ≤ 13 := by omega
    have hq : ((s.size : Int) != 13) = false := by simp; omega
    have H13 := Lib.hid h13; clear h13
    go_enter Tryz.func192, Tryz.ntmps192
    go_wp2
    go_loop [4] (fun i => ∃ k : Nat, k ≤ 13 ∧ i = .int .i64 k ∧ s.data.toList.all Dec.isDig = (s.data.toList.drop k).all Dec.isDig) (fun i => 13 - (intOf i).toNat)
    case atStart => exact ⟨0, Nat.zero_le _, rfl, rfl⟩
    case round =>
      obtain ⟨k, hk, rfl, hall⟩ := hrel
      have HA := Lib.hid hall; clear hall
      by_cases hlt : k < 13
      · have hlt' : k < s.size := by omega
        rcases (by omega : (s[k].toNat : Int) < 48 ∨ 57 < (s[k].toNat : Int) ∨ (48 ≤ (s[k].toNat : Int) ∧ (s[k].toNat : Int) ≤ 57)) with hb | hb | ⟨hb, hb'⟩
        case inr.inr =>
          have HD := Lib.hid (all_drop hlt' (isDig_yes hb hb'))
          go_wp2
          go_round
          case rel => exact ⟨k + 1, by omega, by go_num, by rw [HA.out, HD.out]; rfl⟩
          case measure => simp [intOf]; omega
        all_goals
          have HD := Lib.hid (all_drop hlt' (isDig_no (by omega)))
          go_wp2
          go_ret2
          exact ⟨ret_pair' (by obtain ⟨h4, h0⟩ := ofE_short (.inr (by rw [HA.out, HD.out]; rfl)); exact ⟨h0, h4⟩), 0, rfl⟩
      · have HD := Lib.hid (drop_end s k (by omega))
        have hall : s.data.toList.all Dec.isDig = true := by rw [HA.out, HD.out]; rfl
        obtain ⟨a, b, m, hl, hm, hda, hdb, hv, hv1, hv2⟩ := of13 s.data.toList (by simpa using H13.out) hall
        have hof := ofE_13 (by simpa using H13.out) hall
        have hE : Num.ofE s.data.toList = if a.toNat = 48 then 2 else if Dec.val (a :: m) % 7 = Dec.dval b then 0 else 11 := by
          rw [hof]
          unfold Num.check
          have d2 := Dec.dval_le hdb
          have q1 : Dec.val s.data.toList / 10 = Dec.val (a :: m) := by omega
          have q2 : Dec.val s.data.toList % 10 = Dec.dval b := by omega
          by_cases c1 : a.toNat = 48
          · rw [if_pos c1, if_pos (by omega)]
          · rw [if_neg c1, if_neg (by omega)]
            by_cases c2 : Dec.val (a :: m) % 7 = Dec.dval b
            · rw [if_pos c2, if_pos (by rw [← q1, ← q2] at c2; omega)]
            · rw [if_neg c2, if_neg (by rw [← q1, ← q2] at c2; omega)]
        have HE := Lib.hid hE
        have e0 := congrArg UInt8.toNat (byte_at hl 0 (by omega) (c := a) rfl)
        have e12 := congrArg UInt8.toNat (byte_at hl 12 (by omega) (c := b) (by rw [List.getElem?_append_right (by simp; omega)]; simp [hm]))
        have i2 := Dec.isDig_iff.1 hdb
        have hex : (s.extract 0 12).data.toList = a :: m := by
          have : (s.extract 0 12).data.toList = s.data.toList.take 12 := by simp [ByteArray.data_extract]
          rw [this, hl, List.take_append_of_le_length (by simp; omega), List.take_of_length_le (by simp; omega)]
        have hexa : (s.extract 0 12).data.toList.all Dec.isDig = true := by
          rw [hex]; rw [hl, List.all_append, Bool.and_eq_true] at hall; exact hall.1
        have HX := Lib.hid hex
        have HXA := Lib.hid hexa
        have HL := Lib.hid hall
        clear hl hall hof hE hex hexa HD HA hv hv1 hv2 hm
        by_cases c1 : a.toNat = 48
        · have c1' : ((a.toNat : Int) == 48) = true := by simp; omega
          have HC := Lib.hid c1; clear c1
          go_wp2
          go_ret2
          exact ⟨ret_pair' (by unfold Num.ofN; rw [HE.out, if_pos HC.out]; exact ⟨rfl, rfl⟩), 0, rfl⟩
        · have c1' : ((a.toNat : Int) == 48) = false := by simp; omega
          have HC := Lib.hid c1; clear c1
          go_wp2_with fail
          have H12 : Hid (s.data.toList.take 12 = a :: m) := Lib.hid (by rw [← HX.out]; simp [ByteArray.data_extract])
          by_cases c2 : Dec.val (a :: m) % 7 = Dec.dval b
          all_goals
            have c2' : (48 + (Dec.val (s.data.toList.take 12) : Int) % 7 != (b.toNat : Int)) = decide (¬ Dec.val (a :: m) % 7 = Dec.dval b) := by
              rw [H12.out, Bool.eq_iff_iff]
              simp
              unfold Dec.dval
              omega
            have C2 := Lib.hid c2
            simp only [c2, not_true, not_false_eq_true, decide_true, decide_false] at c2'
            clear c2
          · go_quiet ((go_at_call 174; exact quiet_left (rdigit_any _ HXA.out (by simp; omega) _)))
            go_wp2_with fail
            refine (rworth_any _ HL.out (by omega) _).mono ?_
            rintro e w2 ⟨rfl, rfl⟩
            go_wp2
            go_ret2
            exact ⟨ret_pair' (by unfold Num.ofN; rw [HE.out, if_neg HC.out, if_pos C2.out]; exact ⟨rfl, rfl⟩), _, rfl⟩
          · go_quiet ((go_at_call 174; exact quiet_left (rdigit_any _ HXA.out (by simp; omega) _)))
            go_wp2
            go_ret2
            exact ⟨ret_pair' (by unfold Num.ofN; rw [HE.out, if_neg HC.out, if_neg C2.out]; exact ⟨rfl, rfl⟩), _, rfl⟩
  · have hq : ((s.size : Int) != 13) = true := by simp; omega
    have H := Lib.hid (ofE_short (l := s.data.toList) (.inl (by simpa using h13)))
    clear h13
    go_enter Tryz.func192, Tryz.ntmps192
    go_wp2
    go_ret2
    exact ⟨ret_pair' ⟨H.out.2, H.out.1⟩, 0, rfl⟩
end Go.Proofs.YtbmphlpmipkpcaaGreat
end

section
set_option linter.unusedSimpArgs false
set_option linter.unusedVariables false
namespace Go.Proofs.YtbmphlpmipkpcaaGreat
open Go.RowKit

/-- old cells read as before behind a call that only makes memory -/
theorem bcell {W w1 : World} (hb : Below W.heap.size W w1) : (∀ b o, b < W.heap.size → w1.cell? ⟨b, o, none⟩ = W.cell? ⟨b, o, none⟩) ∧ (∀ b o, b < W.heap.size → w1.frozen? ⟨b, o, none⟩ = W.frozen? ⟨b, o, none⟩) :=
  ⟨fun b o h => hb.cell (p := ⟨b, o, none⟩) h, fun b o h => hb.frozen (p := ⟨b, o, none⟩) h⟩
theorem below_drewE {B : Nat} {a w : World} (h : Below B a w) (n : Nat) : Below B a (w.drewN n) := h.trans ⟨rfl, rfl, rfl, Nat.le_refl _, fun _ _ => rfl⟩
theorem div10 (N : Nat) : ((N / 10000000000 : Nat) : Int) = (N : Int) / 10 / 1000000000 := by omega
theorem digits_size (n : Nat) (h : n ≤ 18446744073709551615) : (⟨(Dec.digits n).toArray⟩ : ByteArray).size ≤ 20 := by
  rw [size_string]; exact Dec.digits_length_le n 19 (by omega)
theorem toList_mk (l : List UInt8) : (⟨l.toArray⟩ : ByteArray).data.toList = l := by simp

set_option maxHeartbeats 400000 in
theorem rCheck_any (n : Int) (h0 : 0 ≤ n) (h1 : n ≤ 18446744073709551615) (w : World) :
    Calls Tryz.prog 149 #[.int .u64 n] w fun e w' => e = .returned (.int .i64 (Num.check n)) ∧ Below w.heap.size w w' := by
  obtain ⟨N, rfl⟩ := Int.eq_ofNat_of_zero_le h0
  have hE := Num.ofE_digits N
  have hsz := digits_size N (by omega)
  have hf := Num.check_far N
  have h4 := Num.check_ne4 N
  go_enter Tryz.func149, Tryz.ntmps149
  have HE := Lib.hid hE; clear hE
  have HF := Lib.hid hf; clear hf
  have H4 := Lib.hid h4; clear h4
  go_wp2_with fail
  refine (rdigits_any _ h0 h1 _).mono ?_
  rintro e w1 ⟨rfl, hb1⟩
  rw [show ((N : Nat) : Int).toNat = N from by omega]
  go_wp2_with fail
  refine (rOf_any _ (by unfold maxLen; omega) _).mono ?_
  rintro e w2 ⟨rfl, m, rfl⟩
  rw [toList_mk, HE.out]
  by_cases hl : (Dec.digits N).length = 13
  · rw [if_pos hl]
    have q := bne_iff_ne.2 H4.out
    have HL := Lib.hid hl; clear hl
    go_wp2
    go_ret
    exact ⟨rfl, below_drewE hb1 m⟩
  · rw [if_neg hl]
    have HL := Lib.hid (HF.out hl); clear hl
    go_wp2
    go_ret
    exact ⟨ret_int (by rw [HL.out]), below_drewE hb1 m⟩

set_option maxHeartbeats 400000 in
theorem rParts_any (n : Int) (h0 : 0 ≤ n) (h1 : n ≤ 18446744073709551615) (w : World) :
    Calls Tryz.prog 212 #[.int .u64 n] w fun e w' => e = .returned (.tuple #[.int .i64 (Num.carr n), .int .i64 (Num.seri n)]) ∧ Below w.heap.size w w' := by
  obtain ⟨N, rfl⟩ := Int.eq_ofNat_of_zero_le h0
  by_cases hc : Num.check N = 0
  · have hb := Num.check_zero hc
    have e1 : Num.carr N = N / 10 / 1000000000 := by unfold Num.carr; rw [if_pos hc]
    have e2 : Num.seri N = N / 10 % 1000000000 := by unfold Num.seri; rw [if_pos hc]
    rw [e1, e2]; clear e1 e2
    have HT := Lib.hid (Num.digits_text (n := N) (by omega) (by omega))
    have hsz := digits_size N (by omega)
    have hs3 : 13 ≤ (⟨(Dec.digits N).toArray⟩ : ByteArray).size := by rw [size_string, Num.digits13 (by omega) (by omega)]; omega
    have hcb : (Num.check N != 0) = false := by rw [hc]; rfl
    have HC := Lib.hid hc; clear hc
    have HB := Lib.hid hb; clear hb
    go_enter Tryz.func212, Tryz.ntmps212
    go_wp2_with fail
    refine (rCheck_any _ h0 h1 _).mono ?_
    rintro e w1 ⟨rfl, hb1⟩
    go_wp2_with fail
    refine (rdigits_any _ h0 h1 _).mono ?_
    rintro e w2 ⟨rfl, hb2⟩
    rw [show ((N : Nat) : Int).toNat = N from by omega]
    generalize hs : (⟨(Dec.digits N).toArray⟩ : ByteArray) = s at *
    have HS : Hid (s.data.toList = Dec.text N 13) := Lib.hid (by rw [← hs, toList_mk, HT.out])
    clear hs
    have x1 : (s.extract 0 3).data.toList = Dec.text (N / 10000000000) 3 := by
      have : (s.extract 0 3).data.toList = s.data.toList.take 3 := by simp [ByteArray.data_extract]
      rw [this, HS.out]; exact Dec.text_take N 3 10
    have y1 : s.data.toList.take 3 = Dec.text (N / 10000000000) 3 := by rw [HS.out]; exact Dec.text_take N 3 10
    have y2 : (s.data.toList.drop 3).take 9 = Dec.text (N / 10) 9 := by
      rw [HS.out, Dec.text_drop N 3 10]; exact Dec.text_take N 9 1
    have x2 : (s.extract 3 12).data.toList = Dec.text (N / 10) 9 := by
      have : (s.extract 3 12).data.toList = (s.data.toList.drop 3).take 9 := by simp [ByteArray.data_extract]
      rw [this, y2]
    have v1 : (Dec.val (s.data.toList.take 3) : Int) = N / 10 / 1000000000 := by
      rw [y1, Dec.text_val, Nat.mod_eq_of_lt (by have := HB.out; omega)]; exact div10 N
    have v2 : (Dec.val ((s.data.toList.drop 3).take 9) : Int) = N / 10 % 1000000000 := by rw [y2, Dec.text_val]; omega
    have a1 : (s.extract 0 3).data.toList.all Dec.isDig = true := by rw [x1]; exact Dec.text_all _ _
    have a2 : (s.extract 3 12).data.toList.all Dec.isDig = true := by rw [x2]; exact Dec.text_all _ _
    have A1 := Lib.hid a1; clear a1
    have A2 := Lib.hid a2; clear a2
    have V1 := Lib.hid v1; clear v1
    have V2 := Lib.hid v2; clear v2
    clear x1 x2 y1 y2
    go_wp2_with fail
    go_quiet ((go_at_call 103; exact quiet_left (rworth_any _ (by first | exact A1.out | exact A2.out) (by simp; omega) _)))
    go_wp2
    go_ret2
    refine ⟨ret_pair' ⟨?_, ?_⟩, below_drewE (hb1.trans (hb2.mono hb1.size)) _⟩
    · rw [V1.out]; unfold wrap64; omega
    · rw [V2.out]; unfold wrap64; omega
  · have e1 : Num.carr N = 0 := by unfold Num.carr; rw [if_neg hc]
    have e2 : Num.seri N = 0 := by unfold Num.seri; rw [if_neg hc]
    rw [e1, e2]; clear e1 e2
    have hcb : (Num.check N != 0) = true := bne_iff_ne.2 hc
    clear hc
    go_enter Tryz.func212, Tryz.ntmps212
    go_wp2_with fail
    refine (rCheck_any _ h0 h1 _).mono ?_
    rintro e w1 ⟨rfl, hb1⟩
    go_wp2
    go_ret2
    exact ⟨rfl, hb1⟩

end Go.Proofs.YtbmphlpmipkpcaaGreat
end

section
set_option linter.unusedVariables false
set_option linter.unusedSimpArgs false
namespace Go.Proofs.YtbmphlpmipkpcaaGreat
open Go.RowKit

theorem bdrewN {B : Nat} {a w : World} (h : Below B a w) (n : Nat) : Below B a (w.drewN n) := h.trans ⟨rfl, rfl, rfl, Nat.le_refl _, fun _ _ => rfl⟩
theorem row_drewN {w : World} {g : Nat} {o : Obj} (h : w.heap[g]? = some o) (n : Nat) : (w.drewN n).heap[g]? = some o := h
/-- a slice's parts -/
structure Sl where
  p : Option Addr
  n : Nat
  c : Nat
/-- a ticket in memory -/
structure TS (w : World) (t : Tk) (c x h : Sl) : Prop where
  cs : LS Cpn.cells 6 w (.slice c.p c.n c.c) t.cs
  ts : LS Txx.cells 2 w (.slice x.p x.n x.c) t.ts
  hs : LS Evt.cells 4 w (.slice h.p h.n h.c) t.hs
  wf : t.wf
theorem TS.below {w w' : World} {t : Tk} {c x h : Sl} (s : TS w t c x h) (hb : Below w.heap.size w w') : TS w' t c x h := ⟨s.cs.below hb, s.ts.below hb, s.hs.below hb, s.wf⟩

theorem tday_any (n : Int) (w : World) : Calls Tryz.prog 201 #[.int .i64 n] w fun e w' => e = .returned (.bool (Tkt.dayB n)) ∧ w = w' := by
  go_enter Tryz.func201, Tryz.ntmps201
  go_wp2
  all_goals
    go_ret
    refine ⟨ret_bool ?_, rfl⟩
    unfold Tkt.dayB
    simp; omega

theorem fareMay_any (n : Int) (w : World) : Calls Tryz.prog 215 #[.int .i64 n] w fun e w' => e = .returned (.bool (decide (-1000000000000 ≤ n) && decide (n ≤ 1000000000000))) ∧ w = w' := by
  go_enter Tryz.func215, Tryz.ntmps215
  go_wp2
  all_goals
    go_ret
    refine ⟨ret_bool ?_, rfl⟩
    simp; omega

theorem tsome_any (n : Int) (w : World) : Calls Tryz.prog 202 #[.int .i64 n] w fun e w' => e = .returned (.bool (Tkt.someB n)) ∧ w = w' := by
  obtain ⟨q, hq⟩ : ∃ q, (decide (-1000000000000 ≤ n) && decide (n ≤ 1000000000000)) = q := ⟨_, rfl⟩
  have HF := Lib.hid (fareMay_any n w)
  rw [hq] at HF
  have HQ := Lib.hid hq
  clear hq
  go_enter Tryz.func202, Tryz.ntmps202
  go_wp2_with (first | (go_at_call 215; refine HF.out.mono ?_; rintro e w' ⟨rfl, rfl⟩))
  all_goals
    go_ret
    refine ⟨ret_bool ?_, rfl⟩
    have := HQ.out
    unfold Tkt.someB
    simp_all
    try omega

theorem numbered_any (n : Int) (hn : U64 n) (w : World) : Calls Tryz.prog 200 #[.int .u64 n] w fun e w' => e = .returned (.bool (Tkt.numB n)) ∧ w = w' := by
  obtain ⟨h0, h1⟩ := hn
  go_enter Tryz.func200, Tryz.ntmps200
  go_wp2_with (first | (go_at_call 168; refine (check_any _ (by omega) (by omega) _).mono ?_; rintro e w' ⟨rfl, rfl⟩))
  go_ret
  exact ⟨ret_bool (by first | rfl | (unfold Tkt.numB; simp)), rfl⟩

set_option maxHeartbeats 400000 in
theorem other_any (t : Tk) (c x h : Sl) (n : Int) (hn : U64 n) (w : World) : Calls Tryz.prog 199 #[.agg #[.int .u64 t.num, .string t.loc, .int .i64 t.iss, .slice c.p c.n c.c, .slice x.p x.n x.c, .int .u64 t.prev, .int .u64 t.org, .int .u64 t.fst, .int .i64 t.vou, .int .i64 t.posts, .slice h.p h.n h.c], .int .u64 n] w fun e w' => e = .returned (.bool (Tkt.othB t.num n)) ∧ Below w.heap.size w w' := by
  go_enter Tryz.func199, Tryz.ntmps199
  go_wp2_with (first | (go_at_call 200; refine (numbered_any _ hn _).mono ?_; rintro e w' ⟨rfl, rfl⟩))
  all_goals
    go_ret
    refine ⟨ret_bool ?_, (Below.refl _ _).alloc (Nat.le_refl _) _⟩
    unfold Tkt.othB
    rw [Bool.eq_iff_iff]
    simp_all

set_option maxHeartbeats 400000 in
theorem holder_any (t : Tk) (c x h : Sl) (n : Int) (hn : U64 n) (hnum : U64 t.num) (w : World) : Calls Tryz.prog 204 #[.agg #[.int .u64 t.num, .string t.loc, .int .i64 t.iss, .slice c.p c.n c.c, .slice x.p x.n x.c, .int .u64 t.prev, .int .u64 t.org, .int .u64 t.fst, .int .i64 t.vou, .int .i64 t.posts, .slice h.p h.n h.c], .int .u64 n] w fun e w' => e = .returned (.bool (Tkt.holdB t.num n)) ∧ Below w.heap.size w w' := by
  obtain ⟨h0, h1⟩ := hn
  obtain ⟨g0, g1⟩ := hnum
  by_cases hle : n ≤ 1048576
  · by_cases hm : Num.mayC (n - 1) = true
    · have hE : Num.mkE (n - 1) 0 = 0 := by unfold Num.mkE; rw [if_pos (by rw [hm]; rfl)]
      have HM := Lib.hid (fun W => make_any (n - 1) 0 W)
      rw [hE] at HM
      have HC := Lib.hid (Num.mayC_iff.1 hm)
      clear hE hm
      go_enter Tryz.func204, Tryz.ntmps204
      go_wp2_with (first | (go_at_call 216; refine (HM.out _).mono ?_; rintro e w' ⟨rfl, rfl⟩) | (go_at_call 217; refine (carrier_any _ (by omega) (by omega) _).mono ?_; rintro e w' ⟨rfl, rfl⟩))
      all_goals
        go_ret
        refine ⟨ret_bool ?_, (Below.refl _ _).alloc (Nat.le_refl _) _⟩
        have hc := HC.out
        unfold Tkt.holdB
        rw [Bool.eq_iff_iff]
        simp_all
        try omega
    · have hE : Num.mkE (n - 1) 0 = 2 := by unfold Num.mkE; rw [if_neg (by simp [hm])]
      have HM := Lib.hid (fun W => make_any (n - 1) 0 W)
      rw [hE] at HM
      have HC := Lib.hid (fun h => hm (Num.mayC_iff.2 h))
      clear hE hm
      go_enter Tryz.func204, Tryz.ntmps204
      go_wp2_with (first | (go_at_call 216; refine (HM.out _).mono ?_; rintro e w' ⟨rfl, rfl⟩) | (go_at_call 217; refine (carrier_any _ (by omega) (by omega) _).mono ?_; rintro e w' ⟨rfl, rfl⟩))
      all_goals
        go_ret
        refine ⟨ret_bool ?_, (Below.refl _ _).alloc (Nat.le_refl _) _⟩
        have hc := HC.out
        unfold Tkt.holdB
        rw [Bool.eq_iff_iff]
        simp_all
        try omega
  · have hE : ∀ k : Int, 1000 < k → Num.mkE k 0 = 2 := fun k hk => by unfold Num.mkE; rw [if_neg]; unfold Num.mayC; simp; omega
    have HM : Hid (∀ (k : Int) W, 1000 < k → Calls Tryz.prog 216 #[.int .i64 k, .int .i64 0] W fun e w' => e = .returned (.tuple #[.int .u64 (Num.mkN k 0), .int .i64 2]) ∧ W = w') := Lib.hid (fun k W hk => by have := make_any k 0 W; rwa [hE k hk] at this)
    have HL := Lib.hid hle
    clear hE
    go_enter Tryz.func204, Tryz.ntmps204
    go_wp2_with (first | (go_at_call 216; refine (HM.out _ _ (by omega)).mono ?_; rintro e w' ⟨rfl, rfl⟩))
    go_ret
    refine ⟨ret_bool ?_, (Below.refl _ _).alloc (Nat.le_refl _) _⟩
    unfold Tkt.holdB
    rw [Bool.eq_iff_iff]
    simp
    omega
end Go.Proofs.YtbmphlpmipkpcaaGreat
end
