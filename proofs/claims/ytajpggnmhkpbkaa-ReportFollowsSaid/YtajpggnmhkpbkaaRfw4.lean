/- Contracts of the reference's Text, Make, Of, Check, Parts, MayStock, In, and of the program's MayStock, In. -/
import Derived.Test.YtajpggnmhkpbkaaRfw3

set_option linter.unusedSimpArgs false
set_option linter.unusedVariables false
namespace Go.Proofs.Ytajpggnmhkpbkaa
open Go.RowKit

set_option maxHeartbeats 400000 in
theorem rmayCarrier_any (c : Int) (w : World) :
    Calls Try.prog 23 #[.int .i64 c] w fun e w' => e = .returned (.bool (Num.mayC c)) ∧ w = w' := by
  go_enter Try.func23, Try.ntmps23
  go_wp2
  all_goals
    go_ret
    refine ⟨ret_bool ?_, rfl⟩
    unfold Num.mayC
    simp; omega

theorem app_string (a b : List UInt8) : (⟨a.toArray⟩ ++ ⟨b.toArray⟩ : ByteArray) = ⟨(a ++ b).toArray⟩ := by
  apply ByteArray.ext; simp
theorem size_string (a : List UInt8) : (⟨a.toArray⟩ : ByteArray).size = a.length := by simp [ByteArray.size]

set_option maxHeartbeats 400000 in
theorem rText_any (c s : Int) (c0 : 0 ≤ c) (c1 : c ≤ 999) (s0 : 0 ≤ s) (s1 : s ≤ 999999999) (w : World) :
    Calls Try.prog 32 #[.int .i64 c, .int .i64 s] w fun e w' => e = .returned (.string ⟨(Num.textOf c.toNat s.toNat).toArray⟩) ∧ Below w.heap.size w w' := by
  go_enter Try.func32, Try.ntmps32
  go_wp2_with fail
  refine (rtext_any _ _ c0 (by omega) (by omega) (by omega) _).mono ?_
  rintro e w1 ⟨rfl, hb1⟩
  rw [show (3 : Int).toNat = 3 from rfl]
  go_wp2_with fail
  refine (rtext_any _ _ s0 (by omega) (by omega) (by omega) _).mono ?_
  rintro e w2 ⟨rfl, hb2⟩
  rw [show (9 : Int).toNat = 9 from rfl]
  have hl3 := Dec.text_length c.toNat 3
  have hl9 := Dec.text_length s.toNat 9
  have hz : (⟨(Dec.text c.toNat 3 ++ Dec.text s.toNat 9).toArray⟩ : ByteArray).size = 12 := by rw [size_string, List.length_append, hl3, hl9]
  go_wp2_with fail
  rw [app_string]
  have hall : (Dec.text c.toNat 3 ++ Dec.text s.toNat 9).all Dec.isDig = true := by rw [List.all_append, Dec.text_all, Dec.text_all]; rfl
  refine (rdigit_any _ (by simpa using hall) (by omega) _).mono ?_
  rintro e w3 ⟨rfl, rfl⟩
  have hcv := conv_one (P := Try.prog) 87 9 5 Try.underlying87 Try.underlying5 Try.underlying9 (48 + (Dec.val (Dec.text c.toNat 3 ++ Dec.text s.toNat 9) : Int) % 7) (Dec.dig ((c.toNat * 1000000000 + s.toNat) % 7))
    (by rw [Dec.dig_toNat, Num.half_val _ _ (by omega) (by omega)]; omega)
  have HT : Hid (Num.textOf c.toNat s.toNat = (Dec.text c.toNat 3 ++ Dec.text s.toNat 9) ++ [Dec.dig ((c.toNat * 1000000000 + s.toNat) % 7)]) := Lib.hid rfl
  generalize Dec.text c.toNat 3 ++ Dec.text s.toNat 9 = t at *
  go_wp2
  go_ret
  refine ⟨ret_string ?_, ((hb1.trans (hb2.mono hb1.size)).alloc (Nat.le_trans hb1.size hb2.size) _)⟩
  rw [HT.out]
  exact app_string _ _

set_option maxHeartbeats 400000 in
theorem rMake_any (c s : Int) (w : World) :
    Calls Try.prog 13 #[.int .i64 c, .int .i64 s] w fun e w' => e = .returned (.tuple #[.int .u64 (Num.mkN c s), .bool (Num.mayC c && Num.mayS s)]) ∧ Below w.heap.size w w' := by
  by_cases h : (Num.mayC c && Num.mayS s) = true
  · have h1 : Num.mkN c s = Num.make c s := by unfold Num.mkN; rw [if_pos h]
    rw [h1, h]; clear h1
    rw [Bool.and_eq_true] at h
    obtain ⟨hc, hs⟩ := h
    have bc := Num.mayC_iff.1 hc
    have bs := Num.mayS_iff.1 hs
    have hv := Num.make_val c.toNat s.toNat (by omega) (by omega)
    rw [show ((c.toNat : Nat) : Int) = c from by omega, show ((s.toNat : Nat) : Int) = s from by omega] at hv
    have HV := Lib.hid hv; clear hv
    have HA := Lib.hid (Num.textOf_all c.toNat s.toNat)
    have HL := Lib.hid (Num.textOf_length c.toNat s.toNat)
    go_enter Try.func13, Try.ntmps13
    go_wp2_with (first | (go_at_call 23; refine (rmayCarrier_any _ _).mono ?_; rintro e w' ⟨rfl, rfl⟩))
    refine (rText_any c s (by omega) (by omega) (by omega) (by omega) _).mono ?_
    rintro e w1 ⟨rfl, hb1⟩
    generalize Num.textOf c.toNat s.toNat = t at *
    go_wp2_with fail
    refine (rworth_any _ (by simpa using HA.out) (by rw [size_string]; have := HL.out; omega) _).mono ?_
    rintro e w2 ⟨rfl, rfl⟩
    go_wp2
    go_ret2
    refine ⟨?_, hb1⟩
    show Ending.returned (.tuple #[.int .u64 (Dec.val t : Int), .bool true]) = _
    rw [HV.out]
  · have h1 : Num.mkN c s = 0 := by unfold Num.mkN; rw [if_neg h]
    rw [h1, Bool.eq_false_iff.2 h]; clear h1
    have H := Lib.hid h; clear h
    by_cases hs : 0 ≤ s ∧ s ≤ 999999999
    · have hc : Num.mayC c = false := by
        have := H.out
        rw [Num.mayS_iff.2 hs, Bool.and_true] at this
        simpa using this
      obtain ⟨hs0, hs1⟩ := hs
      go_enter Try.func13, Try.ntmps13
      go_wp2_with (first | (go_at_call 23; refine (rmayCarrier_any _ _).mono ?_; rintro e w' ⟨rfl, rfl⟩))
      go_ret2
      exact ⟨rfl, Below.refl _ _⟩
    · have hs' : s < 0 ∨ 999999999 < s := by omega
      clear hs
      cases hc : Num.mayC c
      all_goals
        rcases hs' with hs' | hs'
        all_goals
          go_enter Try.func13, Try.ntmps13
          go_wp2_with (first | (go_at_call 23; refine (rmayCarrier_any _ _).mono ?_; rintro e w' ⟨rfl, rfl⟩))
          go_ret2
          exact ⟨rfl, Below.refl _ _⟩

theorem all_drop {s : ByteArray} {k : Nat} (h : k < s.size) {b : Bool} (hb : Dec.isDig s[k] = b) : (s.data.toList.drop k).all Dec.isDig = (b && (s.data.toList.drop (k + 1)).all Dec.isDig) := by
  rw [drop_step s k h, List.all_cons, hb]
theorem isDig_no {c : UInt8} (h : (c.toNat : Int) < 48 ∨ 57 < (c.toNat : Int)) : Dec.isDig c = false := by
  rw [Bool.eq_false_iff]; intro h'; have := Dec.isDig_iff.1 h'; omega
theorem isDig_yes {c : UInt8} (h : 48 ≤ (c.toNat : Int)) (h' : (c.toNat : Int) ≤ 57) : Dec.isDig c = true := Dec.isDig_iff.2 (by omega)

/-- a text of 13 digits: what its number says of its signs -/
theorem of13 (l : List UInt8) (hl : l.length = 13) (ha : l.all Dec.isDig = true) :
    ∃ (a b : UInt8) (m : List UInt8), l = (a :: m) ++ [b] ∧ m.length = 11 ∧ Dec.isDig a = true ∧ Dec.isDig b = true ∧ Dec.val l = 10 * Dec.val (a :: m) + Dec.dval b ∧ Dec.val l < 10000000000000 ∧
      (Dec.val l < 1000000000000 ↔ a.toNat = 48) := by
  match l, hl with
  | a :: r, hl =>
    have hr : r ≠ [] := by intro e; subst e; simp at hl
    have e := List.dropLast_concat_getLast hr
    have hm : r.dropLast.length = 11 := by simp at hl ⊢; omega
    generalize r.dropLast = m at *
    generalize r.getLast hr = b at *
    subst e
    have ha' : Dec.isDig a = true ∧ m.all Dec.isDig = true ∧ Dec.isDig b = true := by simpa using ha
    have v1 : Dec.val (a :: m ++ [b]) = 10 * Dec.val (a :: m) + Dec.dval b := Dec.val_snoc (a :: m) b
    have v2 : Dec.val (a :: m) = Dec.dval a * 10 ^ 11 + Dec.val m := by
      have := Dec.val_append [a] m
      rw [hm] at this
      have h1 : Dec.val [a] = Dec.dval a := by show 10 * 0 + Dec.dval a = _; omega
      rw [h1] at this
      exact this
    have v3 := Dec.val_lt m ha'.2.1
    rw [hm] at v3
    have d1 := Dec.dval_le ha'.1
    have d2 := Dec.dval_le ha'.2.2
    have i1 := Dec.isDig_iff.1 ha'.1
    refine ⟨a, b, m, rfl, hm, ha'.1, ha'.2.2, v1, ?_, ?_⟩
    · rw [show a :: (m ++ [b]) = a :: m ++ [b] from rfl]; omega
    · rw [show a :: (m ++ [b]) = a :: m ++ [b] from rfl]
      unfold Dec.dval at *
      omega

theorem ofE_short {l : List UInt8} (h : l.length ≠ 13 ∨ l.all Dec.isDig = false) : Num.ofE l = 4 ∧ Num.ofN l = 0 := by
  have h4 : Num.ofE l = 4 := by
    unfold Num.ofE
    rw [if_neg]
    rintro ⟨h1, h2⟩
    rcases h with h | h
    · exact h h1
    · rw [h2] at h; cases h
  exact ⟨h4, by unfold Num.ofN; rw [h4]; rfl⟩

/-- a contract 'w = w'' inside a region that draws -/
theorem quiet_left {P : Program} {f : FuncId} {args : Array Value} {w : World} {n : Nat} {v : Value}
    (h : Calls P f args (w.drewN n) fun e w' => e = .returned v ∧ w.drewN n = w') : Calls P f args (w.drewN n) fun e w'' => e = .returned v ∧ ∃ m, w'' = w.drewN m :=
  h.mono fun _ _ ⟨he, hm⟩ => ⟨he, n, hm.symm⟩
theorem byte_at {s : ByteArray} {l : List UInt8} (h : s.data.toList = l) (k : Nat) (hk : k < s.size) {c : UInt8} (hc : l[k]? = some c) : (s[k]'hk) = c := by
  have h1 : s.data.toList[k]? = some (s[k]'hk) := by rw [List.getElem?_eq_getElem (by simpa using hk)]; rfl
  rw [h, hc] at h1
  injection h1 with h1
  exact h1.symm
theorem ofE_13 {l : List UInt8} (hl : l.length = 13) (ha : l.all Dec.isDig = true) : Num.ofE l = Num.check (Dec.val l) := by unfold Num.ofE; rw [if_pos ⟨hl, ha⟩]

theorem ret_pair' {k k' : IntKind} {a b c d : Int} (h : a = b ∧ c = d) : Ending.returned (.tuple #[.int k b, .int k' d]) = .returned (.tuple #[.int k a, .int k' c]) := by rw [h.1, h.2]

set_option maxHeartbeats 400000 in
theorem rOf_any (s : ByteArray) (hs : s.size ≤ maxLen) (w : World) :
    Calls Try.prog 72 #[.string s] w fun e w' => e = .returned (.tuple #[.int .u64 (Num.ofN s.data.toList), .int .i64 (Num.ofE s.data.toList)]) ∧ ∃ n, w' = w.drewN n := by
  unfold maxLen at hs
  by_cases h13 : s.size = 13
  · have h13' : 13 ≤ s.size := by omega
    have h13'' : s.size ≤ 13 := by omega
    have hq : ((s.size : Int) != 13) = false := by simp; omega
    have H13 := Lib.hid h13; clear h13
    go_enter Try.func72, Try.ntmps72
    go_wp2
    go_loop [4] (fun i => ∃ k : Nat, k ≤ 13 ∧ i = .int .i64 k ∧ s.data.toList.all Dec.isDig = (s.data.toList.drop k).all Dec.isDig) (fun i => 13 - (intOf i).toNat)
    case atStart => exact ⟨0, Nat.zero_le _, rfl, rfl⟩
    case round =>
      obtain ⟨k, hk, rfl, hall⟩ := hrel
      have HA := Lib.hid hall; clear hall
      by_cases hlt : k < 13
      · have hlt' : k < s.size := by omega
        rcases (by omega : (s[k].toNat : Int) < 48 ∨ 57 < (s[k].toNat : Int) ∨ (48 ≤ (s[k].toNat : Int) ∧ (s[k].toNat : Int) ≤ 57)) with hb | hb | ⟨hb, hb'⟩
        case inr.inr =>
          have HD := Lib.hid (all_drop hlt' (isDig_yes hb hb'))
          go_wp2
          go_round
          case rel => exact ⟨k + 1, by omega, by go_num, by rw [HA.out, HD.out]; rfl⟩
          case measure => simp [intOf]; omega
        all_goals
          have HD := Lib.hid (all_drop hlt' (isDig_no (by omega)))
          go_wp2
          go_ret2
          exact ⟨ret_pair' (by obtain ⟨h4, h0⟩ := ofE_short (.inr (by rw [HA.out, HD.out]; rfl)); exact ⟨h0, h4⟩), 0, rfl⟩
      · have HD := Lib.hid (drop_end s k (by omega))
        have hall : s.data.toList.all Dec.isDig = true := by rw [HA.out, HD.out]; rfl
        obtain ⟨a, b, m, hl, hm, hda, hdb, hv, hv1, hv2⟩ := of13 s.data.toList (by simpa using H13.out) hall
        have hof := ofE_13 (by simpa using H13.out) hall
        have hE : Num.ofE s.data.toList = if a.toNat = 48 then 2 else if Dec.val (a :: m) % 7 = Dec.dval b then 0 else 11 := by
          rw [hof]
          unfold Num.check
          have d2 := Dec.dval_le hdb
          have q1 : Dec.val s.data.toList / 10 = Dec.val (a :: m) := by omega
          have q2 : Dec.val s.data.toList % 10 = Dec.dval b := by omega
          by_cases c1 : a.toNat = 48
          · rw [if_pos c1, if_pos (by omega)]
          · rw [if_neg c1, if_neg (by omega)]
            by_cases c2 : Dec.val (a :: m) % 7 = Dec.dval b
            · rw [if_pos c2, if_pos (by rw [← q1, ← q2] at c2; omega)]
            · rw [if_neg c2, if_neg (by rw [← q1, ← q2] at c2; omega)]
        have HE := Lib.hid hE
        have e0 := congrArg UInt8.toNat (byte_at hl 0 (by omega) (c := a) rfl)
        have e12 := congrArg UInt8.toNat (byte_at hl 12 (by omega) (c := b) (by rw [List.getElem?_append_right (by simp; omega)]; simp [hm]))
        have i2 := Dec.isDig_iff.1 hdb
        have hex : (s.extract 0 12).data.toList = a :: m := by
          have : (s.extract 0 12).data.toList = s.data.toList.take 12 := by simp [ByteArray.data_extract]
          rw [this, hl, List.take_append_of_le_length (by simp; omega), List.take_of_length_le (by simp; omega)]
        have hexa : (s.extract 0 12).data.toList.all Dec.isDig = true := by
          rw [hex]; rw [hl, List.all_append, Bool.and_eq_true] at hall; exact hall.1
        have HX := Lib.hid hex
        have HXA := Lib.hid hexa
        have HL := Lib.hid hall
        clear hl hall hof hE hex hexa HD HA hv hv1 hv2 hm
        by_cases c1 : a.toNat = 48
        · have c1' : ((a.toNat : Int) == 48) = true := by simp; omega
          have HC := Lib.hid c1; clear c1
          go_wp2
          go_ret2
          exact ⟨ret_pair' (by unfold Num.ofN; rw [HE.out, if_pos HC.out]; exact ⟨rfl, rfl⟩), 0, rfl⟩
        · have c1' : ((a.toNat : Int) == 48) = false := by simp; omega
          have HC := Lib.hid c1; clear c1
          go_wp2_with fail
          have H12 : Hid (s.data.toList.take 12 = a :: m) := Lib.hid (by rw [← HX.out]; simp [ByteArray.data_extract])
          by_cases c2 : Dec.val (a :: m) % 7 = Dec.dval b
          all_goals
            have c2' : (48 + (Dec.val (s.data.toList.take 12) : Int) % 7 != (b.toNat : Int)) = decide (¬ Dec.val (a :: m) % 7 = Dec.dval b) := by
              rw [H12.out, Bool.eq_iff_iff]
              simp
              unfold Dec.dval
              omega
            have C2 := Lib.hid c2
            simp only [c2, not_true, not_false_eq_true, decide_true, decide_false] at c2'
            clear c2
          · go_quiet ((go_at_call 57; exact quiet_left (rdigit_any _ HXA.out (by simp; omega) _)))
            go_wp2_with fail
            refine (rworth_any _ HL.out (by omega) _).mono ?_
            rintro e w2 ⟨rfl, rfl⟩
            go_wp2
            go_ret2
            exact ⟨ret_pair' (by unfold Num.ofN; rw [HE.out, if_neg HC.out, if_pos C2.out]; exact ⟨rfl, rfl⟩), _, rfl⟩
          · go_quiet ((go_at_call 57; exact quiet_left (rdigit_any _ HXA.out (by simp; omega) _)))
            go_wp2
            go_ret2
            exact ⟨ret_pair' (by unfold Num.ofN; rw [HE.out, if_neg HC.out, if_neg C2.out]; exact ⟨rfl, rfl⟩), _, rfl⟩
  · have hq : ((s.size : Int) != 13) = true := by simp; omega
    have H := Lib.hid (ofE_short (l := s.data.toList) (.inl (by simpa using h13)))
    clear h13
    go_enter Try.func72, Try.ntmps72
    go_wp2
    go_ret2
    exact ⟨ret_pair' ⟨H.out.2, H.out.1⟩, 0, rfl⟩
end Go.Proofs.Ytajpggnmhkpbkaa
