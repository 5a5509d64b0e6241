/- Contracts of the reference's Check, Parts, MayStock, In, and of the program's MayStock, In. Plain definitions and facts on postings; no program in sight. -/
import Derived.Test.YtajpggnmhkpbkaaRfw4
import GoSem.Core.Value
import Derived.Test.YtajpggnmhkpbkaaRfw1

section
set_option linter.unusedSimpArgs false
set_option linter.unusedVariables false
namespace Go.Proofs.Ytajpggnmhkpbkaa
open Go.RowKit

/-- old cells read as before behind a call that only makes memory -/
theorem bcell {W w1 : World} (hb : Below W.heap.size W w1) : (∀ b o, b < W.heap.size → w1.cell? ⟨b, o, none⟩ = W.cell? ⟨b, o, none⟩) ∧ (∀ b o, b < W.heap.size → w1.frozen? ⟨b, o, none⟩ = W.frozen? ⟨b, o, none⟩) :=
  ⟨fun b o h => hb.cell (p := ⟨b, o, none⟩) h, fun b o h => hb.frozen (p := ⟨b, o, none⟩) h⟩
theorem below_drewE {B : Nat} {a w : World} (h : Below B a w) (n : Nat) : Below B a (w.drewN n) := h.trans ⟨rfl, rfl, rfl, Nat.le_refl _, fun _ _ => rfl⟩
theorem div10 (N : Nat) : ((N / 10000000000 : Nat) : Int) = (N : Int) / 10 / 1000000000 := by omega
theorem digits_size (n : Nat) (h : n ≤ 18446744073709551615) : (⟨(Dec.digits n).toArray⟩ : ByteArray).size ≤ 20 := by
  rw [size_string]; exact Dec.digits_length_le n 19 (by omega)
theorem toList_mk (l : List UInt8) : (⟨l.toArray⟩ : ByteArray).data.toList = l := by simp

set_option maxHeartbeats 400000 in
theorem rCheck_any (n : Int) (h0 : 0 ≤ n) (h1 : n ≤ 18446744073709551615) (w : World) :
    Calls Try.prog 54 #[.int .u64 n] w fun e w' => e = .returned (.int .i64 (Num.check n)) ∧ Below w.heap.size w w' := by
  obtain ⟨N, rfl⟩ := Int.eq_ofNat_of_zero_le h0
  have hE := Num.ofE_digits N
  have hsz := digits_size N (by omega)
  have hf := Num.check_far N
  have h4 := Num.check_ne4 N
  go_enter Try.func54, Try.ntmps54
  have HE := Lib.hid hE; clear hE
  have HF := Lib.hid hf; clear hf
  have H4 := Lib.hid h4; clear h4
  go_wp2_with fail
  refine (rdigits_any _ h0 h1 _).mono ?_
  rintro e w1 ⟨rfl, hb1⟩
  rw [show ((N : Nat) : Int).toNat = N from by omega]
  go_wp2_with fail
  refine (rOf_any _ (by unfold maxLen; omega) _).mono ?_
  rintro e w2 ⟨rfl, m, rfl⟩
  rw [toList_mk, HE.out]
  by_cases hl : (Dec.digits N).length = 13
  · rw [if_pos hl]
    have q := bne_iff_ne.2 H4.out
    have HL := Lib.hid hl; clear hl
    go_wp2
    go_ret
    exact ⟨rfl, below_drewE hb1 m⟩
  · rw [if_neg hl]
    have HL := Lib.hid (HF.out hl); clear hl
    go_wp2
    go_ret
    exact ⟨ret_int (by rw [HL.out]), below_drewE hb1 m⟩

set_option maxHeartbeats 400000 in
theorem rParts_any (n : Int) (h0 : 0 ≤ n) (h1 : n ≤ 18446744073709551615) (w : World) :
    Calls Try.prog 28 #[.int .u64 n] w fun e w' => e = .returned (.tuple #[.int .i64 (Num.carr n), .int .i64 (Num.seri n)]) ∧ Below w.heap.size w w' := by
  obtain ⟨N, rfl⟩ := Int.eq_ofNat_of_zero_le h0
  by_cases hc : Num.check N = 0
  · have hb := Num.check_zero hc
    have e1 : Num.carr N = N / 10 / 1000000000 := by unfold Num.carr; rw [if_pos hc]
    have e2 : Num.seri N = N / 10 % 1000000000 := by unfold Num.seri; rw [if_pos hc]
    rw [e1, e2]; clear e1 e2
    have HT := Lib.hid (Num.digits_text (n := N) (by omega) (by omega))
    have hsz := digits_size N (by omega)
    have hs3 : 13 ≤ (⟨(Dec.digits N).toArray⟩ : ByteArray).size := by rw [size_string, Num.digits13 (by omega) (by omega)]; omega
    have hcb : (Num.check N != 0) = false := by rw [hc]; rfl
    have HC := Lib.hid hc; clear hc
    have HB := Lib.hid hb; clear hb
    go_enter Try.func28, Try.ntmps28
    go_wp2_with fail
    refine (rCheck_any _ h0 h1 _).mono ?_
    rintro e w1 ⟨rfl, hb1⟩
    go_wp2_with fail
    refine (rdigits_any _ h0 h1 _).mono ?_
    rintro e w2 ⟨rfl, hb2⟩
    rw [show ((N : Nat) : Int).toNat = N from by omega]
    generalize hs : (⟨(Dec.digits N).toArray⟩ : ByteArray) = s at *
    have HS : Hid (s.data.toList = Dec.text N 13) := Lib.hid (by rw [← hs, toList_mk, HT.out])
    clear hs
    have x1 : (s.extract 0 3).data.toList = Dec.text (N / 10000000000) 3 := by
      have : (s.extract 0 3).data.toList = s.data.toList.take 3 := by simp [ByteArray.data_extract]
      rw [this, HS.out]; exact Dec.text_take N 3 10
    have y1 : s.data.toList.take 3 = Dec.text (N / 10000000000) 3 := by rw [HS.out]; exact Dec.text_take N 3 10
    have y2 : (s.data.toList.drop 3).take 9 = Dec.text (N / 10) 9 := by
      rw [HS.out, Dec.text_drop N 3 10]; exact Dec.text_take N 9 1
    have x2 : (s.extract 3 12).data.toList = Dec.text (N / 10) 9 := by
      have : (s.extract 3 12).data.toList = (s.data.toList.drop 3).take 9 := by simp [ByteArray.data_extract]
      rw [this, y2]
    have v1 : (Dec.val (s.data.toList.take 3) : Int) = N / 10 / 1000000000 := by
      rw [y1, Dec.text_val, Nat.mod_eq_of_lt (by have := HB.out; omega)]; exact div10 N
    have v2 : (Dec.val ((s.data.toList.drop 3).take 9) : Int) = N / 10 % 1000000000 := by rw [y2, Dec.text_val]; omega
    have a1 : (s.extract 0 3).data.toList.all Dec.isDig = true := by rw [x1]; exact Dec.text_all _ _
    have a2 : (s.extract 3 12).data.toList.all Dec.isDig = true := by rw [x2]; exact Dec.text_all _ _
    have A1 := Lib.hid a1; clear a1
    have A2 := Lib.hid a2; clear a2
    have V1 := Lib.hid v1; clear v1
    have V2 := Lib.hid v2; clear v2
    clear x1 x2 y1 y2
    go_wp2_with fail
    go_quiet ((go_at_call 31; exact quiet_left (rworth_any _ (by first | exact A1.out | exact A2.out) (by simp; omega) _)))
    go_wp2
    go_ret2
    refine ⟨ret_pair' ⟨?_, ?_⟩, below_drewE (hb1.trans (hb2.mono hb1.size)) _⟩
    · rw [V1.out]; unfold wrap64; omega
    · rw [V2.out]; unfold wrap64; omega
  · have e1 : Num.carr N = 0 := by unfold Num.carr; rw [if_neg hc]
    have e2 : Num.seri N = 0 := by unfold Num.seri; rw [if_neg hc]
    rw [e1, e2]; clear e1 e2
    have hcb : (Num.check N != 0) = true := bne_iff_ne.2 hc
    clear hc
    go_enter Try.func28, Try.ntmps28
    go_wp2_with fail
    refine (rCheck_any _ h0 h1 _).mono ?_
    rintro e w1 ⟨rfl, hb1⟩
    go_wp2
    go_ret2
    exact ⟨rfl, hb1⟩

set_option maxHeartbeats 400000 in
theorem mayStock_any (c f n : Int) (wn : -9223372036854775808 ≤ n ∧ n ≤ 9223372036854775807) (w : World) :
    Calls Try.prog 8 #[.agg #[.int .i64 c, .int .i64 f, .int .i64 n]] w fun e w' => e = .returned (.bool (Num.mayStock c f n)) ∧ Below w.heap.size w w' := by
  have H : Hid (Num.mayStock c f n = (Num.mayC c && Num.mayS f && decide (1 ≤ n) && decide (n ≤ 1000000000 - f))) := Lib.hid rfl
  obtain ⟨wn1, wn2⟩ := wn
  cases hc : Num.mayC c <;> cases hf : Num.mayS f
  case true.true =>
    have bf := Num.mayS_iff.1 hf
    obtain ⟨bf1, bf2⟩ := bf
    by_cases hn : 1 ≤ n
    all_goals
      go_enter Try.func8, Try.ntmps8
      go_wp2_with (first | (go_at_call 25; refine (mayCarrier_any _ _).mono ?_; rintro e w' ⟨rfl, rfl⟩) | (go_at_call 26; refine (maySerial_any _ _).mono ?_; rintro e w' ⟨rfl, rfl⟩))
      go_ret
      refine ⟨ret_bool ?_, (Below.refl _ _).alloc (Nat.le_refl _) _⟩
      rw [H.out, hc, hf, Bool.eq_iff_iff]
      simp
      try omega
  all_goals
    go_enter Try.func8, Try.ntmps8
    go_wp2_with (first | (go_at_call 25; refine (mayCarrier_any _ _).mono ?_; rintro e w' ⟨rfl, rfl⟩) | (go_at_call 26; refine (maySerial_any _ _).mono ?_; rintro e w' ⟨rfl, rfl⟩))
    go_ret
    refine ⟨ret_bool ?_, (Below.refl _ _).alloc (Nat.le_refl _) _⟩
    rw [H.out, hc, hf]
    rfl

set_option maxHeartbeats 400000 in
theorem rMayStock_any (c f n : Int) (wn : -9223372036854775808 ≤ n ∧ n ≤ 9223372036854775807) (w : World) :
    Calls Try.prog 6 #[.agg #[.int .i64 c, .int .i64 f, .int .i64 n]] w fun e w' => e = .returned (.bool (Num.mayStock c f n)) ∧ Below w.heap.size w w' := by
  have H : Hid (Num.mayStock c f n = (Num.mayC c && Num.mayS f && decide (1 ≤ n) && decide (n ≤ 1000000000 - f))) := Lib.hid rfl
  have HS : Hid (Num.mayS f = (decide (0 ≤ f) && decide (f ≤ 999999999))) := Lib.hid rfl
  obtain ⟨wn1, wn2⟩ := wn
  rcases (by omega : f < 0 ∨ 999999999 < f ∨ (0 ≤ f ∧ f ≤ 999999999)) with hf | hf | ⟨hf, hf'⟩
  all_goals
    cases hc : Num.mayC c
    all_goals
      go_enter Try.func6, Try.ntmps6
      go_wp2_with (first | (go_at_call 23; refine (rmayCarrier_any _ _).mono ?_; rintro e w' ⟨rfl, rfl⟩))
      all_goals
        go_ret
        refine ⟨ret_bool ?_, (Below.refl _ _).alloc (Nat.le_refl _) _⟩
        rw [H.out, hc, HS.out, Bool.eq_iff_iff]
        simp
        try omega

set_option maxHeartbeats 400000 in
theorem in_any (c f n m : Int) (wn : -9223372036854775808 ≤ n ∧ n ≤ 9223372036854775807) (h0 : 0 ≤ m) (h1 : m ≤ 18446744073709551615) (w : World) :
    Calls Try.prog 9 #[.agg #[.int .i64 c, .int .i64 f, .int .i64 n], .int .u64 m] w fun e w' => e = .returned (.bool (Num.inStock c f n m)) ∧ Below w.heap.size w w' := by
  have H : Hid (Num.inStock c f n m = (Num.mayStock c f n && decide (Num.carr m = c) && decide (f ≤ Num.seri m) && decide (Num.seri m < f + n))) := Lib.hid rfl
  have HM := Lib.hid (Num.mayStock_iff (c := c) (f := f) (n := n))
  have bs := Num.seri_bound m
  obtain ⟨bs1, bs2⟩ := bs
  have wn' := wn
  obtain ⟨wn1, wn2⟩ := wn'
  cases hm : Num.mayStock c f n
  · go_enter Try.func9, Try.ntmps9
    go_wp2_with (first | (go_at_call 27; refine (parts_any _ h0 h1 _).mono ?_; rintro e w' ⟨rfl, rfl⟩) | (go_at_call 8; refine (mayStock_any _ _ _ wn _).mono ?_; rintro e w1 ⟨rfl, hb1⟩))
    go_ret
    exact ⟨ret_bool (by rw [H.out, hm]; rfl), ((Below.refl _ _).alloc (Nat.le_refl _) _).trans (hb1.mono (by simp))⟩
  · obtain ⟨_, ⟨b1, b2⟩, b3, b4⟩ := HM.out.1 hm
    go_enter Try.func9, Try.ntmps9
    have hI : Num.inStock c f n m = (decide (Num.carr m = c) && decide (f ≤ Num.seri m) && decide (Num.seri m < f + n)) := by rw [H.out, hm]; rfl
    have HI := Lib.hid hI; clear hI
    go_wp2_with fail
    refine (parts_any _ h0 h1 _).mono ?_
    rintro e w0 ⟨rfl, rfl⟩
    go_wp2_with fail
    refine (mayStock_any _ _ _ wn _).mono ?_
    rintro e w1 ⟨rfl, hb1⟩
    obtain ⟨hcell, _⟩ := bcell hb1
    go_wp2
    all_goals
      go_ret
      refine ⟨ret_bool ?_, ((Below.refl _ _).alloc (Nat.le_refl _) _).trans (hb1.mono (by simp))⟩
      rw [HI.out, Bool.eq_iff_iff]
      simp_all
      try omega

set_option maxHeartbeats 400000 in
theorem rIn_any (c f n m : Int) (wn : -9223372036854775808 ≤ n ∧ n ≤ 9223372036854775807) (h0 : 0 ≤ m) (h1 : m ≤ 18446744073709551615) (w : World) :
    Calls Try.prog 10 #[.agg #[.int .i64 c, .int .i64 f, .int .i64 n], .int .u64 m] w fun e w' => e = .returned (.bool (Num.inStock c f n m)) ∧ Below w.heap.size w w' := by
  have H : Hid (Num.inStock c f n m = (Num.mayStock c f n && decide (Num.carr m = c) && decide (f ≤ Num.seri m) && decide (Num.seri m < f + n))) := Lib.hid rfl
  have HM := Lib.hid (Num.mayStock_iff (c := c) (f := f) (n := n))
  have bs := Num.seri_bound m
  obtain ⟨bs1, bs2⟩ := bs
  have wn' := wn
  obtain ⟨wn1, wn2⟩ := wn'
  cases hm : Num.mayStock c f n
  · go_enter Try.func10, Try.ntmps10
    go_wp2_with fail
    refine (rParts_any _ h0 h1 _).mono ?_
    rintro e w0 ⟨rfl, hb0⟩
    obtain ⟨hcell, _⟩ := bcell hb0
    go_wp2_with fail
    refine (rMayStock_any _ _ _ wn _).mono ?_
    rintro e w1 ⟨rfl, hb1⟩
    go_wp2
    go_ret
    exact ⟨ret_bool (by rw [H.out, hm]; rfl), (((Below.refl _ _).alloc (Nat.le_refl _) _).trans (hb0.mono (by simp))).trans (hb1.mono (by have := hb0.size; simp at this; omega))⟩
  · obtain ⟨_, ⟨b1, b2⟩, b3, b4⟩ := HM.out.1 hm
    go_enter Try.func10, Try.ntmps10
    have hI : Num.inStock c f n m = (decide (Num.carr m = c) && decide (f ≤ Num.seri m) && decide (Num.seri m < f + n)) := by rw [H.out, hm]; rfl
    have HI := Lib.hid hI; clear hI
    go_wp2_with fail
    refine (rParts_any _ h0 h1 _).mono ?_
    rintro e w0 ⟨rfl, hb0⟩
    obtain ⟨hcell, _⟩ := bcell hb0
    go_wp2_with fail
    refine (rMayStock_any _ _ _ wn _).mono ?_
    rintro e w1 ⟨rfl, hb1⟩
    have hb2 := hb0.trans (hb1.mono hb0.size)
    clear hcell
    obtain ⟨hcell, _⟩ := bcell hb2
    go_wp2
    all_goals
      go_ret
      refine ⟨ret_bool ?_, ((Below.refl _ _).alloc (Nat.le_refl _) _).trans (hb2.mono (by simp))⟩
      rw [HI.out, Bool.eq_iff_iff]
      simp_all
      try omega
end Go.Proofs.Ytajpggnmhkpbkaa
end

section
namespace Go.Proofs.Ytajpggnmhkpbkaa.Post

/-- six amounts as cells -/
def amRow (am : List Int) : Array Value := (am.map (Value.int .i64)).toArray
theorem amRow_size (am : List Int) : (amRow am).size = am.length := by simp [amRow]
theorem amRow_at {am : List Int} {j : Nat} (h : j < am.length) : (amRow am)[j]? = some (.int .i64 (am.getD j 0)) := by
  unfold amRow; simp [h]
def outB (bd : Int) (n : Int) : Bool := decide (n < -bd) || decide (bd < n)
def idxOut (bd : Int) : List Int → Int → Int
  | [], _ => -1
  | z :: zs, i => if outB bd z = true then i else idxOut bd zs (i + 1)
def fit (c : UInt8) (n : Int) : Bool :=
  if c.toNat = 43 then decide (0 ≤ n) else if c.toNat = 45 then decide (n ≤ 0) else if c.toNat = 48 then decide (n = 0) else true
/-- what a kind's six amounts are like -/
def signs (k : Int) : List UInt8 :=
  if k = 1 then [43, 45, 48, 45, 48, 48] else if k = 2 then [45, 43, 48, 43, 48, 48] else if k = 3 then [48, 43, 45, 48, 48, 48]
  else if k = 4 then [45, 43, 48, 43, 45, 48] else if k = 5 then [43, 42, 48, 42, 45, 45] else []
def name (k : Int) : List UInt8 :=
  if k = 1 then [105, 115, 115, 117, 101] else if k = 2 then [118, 111, 105, 100] else if k = 3 then [102, 108, 121]
  else if k = 4 then [114, 101, 102, 117, 110, 100] else if k = 5 then [101, 120, 99, 104, 97, 110, 103, 101] else []
def fitAll : List UInt8 → List Int → Bool
  | c :: cs, n :: ns => fit c n && fitAll cs ns
  | _, _ => true
def sum : List Int → Int
  | [] => 0
  | n :: ns => n + sum ns
def cols (k : Int) (am : List Int) : Bool :=
  !(am.any (outB 1125899906842624)) && fitAll (signs k) am && decide (sum am = 0) && !(decide (k = 5) && decide (am.getD 0 0 ≠ 0) && decide (am.getD 5 0 ≠ 0))
def may (d t s k : Int) (am : List Int) : Bool :=
  decide (1 ≤ k) && decide (k ≤ 5) && cols k am && decide (0 ≤ d) && decide (d ≤ 1000000) && decide (1 ≤ s) && decide (s ≤ 200) && decide (Num.check t = 0)

theorem idxOut_any (bd : Int) (zs : List Int) (i : Int) (hi : 0 ≤ i) : decide (0 ≤ idxOut bd zs i) = zs.any (outB bd) := by
  induction zs generalizing i with
  | nil => simp [idxOut]
  | cons z zs ih =>
    unfold idxOut
    by_cases h : outB bd z = true
    · rw [if_pos h]; simp [h, hi]
    · rw [if_neg h, ih (i + 1) (by omega)]; simp [h]
theorem idxOut_miss {bd z : Int} (h : outB bd z = false) (zs : List Int) (i : Int) : idxOut bd (z :: zs) i = idxOut bd zs (i + 1) := by
  show (if outB bd z = true then i else idxOut bd zs (i + 1)) = _
  rw [h]; rfl
theorem idxOut_hit {bd z : Int} (h : outB bd z = true) (zs : List Int) (i : Int) : idxOut bd (z :: zs) i = i := by
  show (if outB bd z = true then i else idxOut bd zs (i + 1)) = _
  rw [h]; rfl
theorem fitAll_step {c : UInt8} {n : Int} {b : Bool} (h : fit c n = b) (cs : List UInt8) (ns : List Int) : fitAll (c :: cs) (n :: ns) = (b && fitAll cs ns) := by
  show (fit c n && fitAll cs ns) = _
  rw [h]
theorem sum_cons (n : Int) (ns : List Int) : sum (n :: ns) = n + sum ns := rfl
theorem any_in {bd : Int} {l : List Int} (h : l.any (outB bd) = false) {z : Int} (hz : z ∈ l) : -bd ≤ z ∧ z ≤ bd := by
  have := List.any_eq_false.1 h z hz
  unfold outB at this
  simp at this
  omega
/-- the reference's tables: may a kind's amounts be below 0, above 0 -/
def belowRow (k : Int) : List Bool :=
  if k = 1 then [false, true, false, true, false, false] else if k = 2 then [true, false, false, false, false, false] else if k = 3 then [false, false, true, false, false, false]
  else if k = 4 then [true, false, false, false, true, false] else [false, true, false, true, true, true]
def aboveRow (k : Int) : List Bool :=
  if k = 1 then [true, false, false, false, false, false] else if k = 2 then [false, true, false, true, false, false] else if k = 3 then [false, true, false, false, false, false]
  else if k = 4 then [false, true, false, true, false, false] else [true, true, false, true, false, false]
theorem fit_tables {k : Int} (h1 : 1 ≤ k) (h5 : k ≤ 5) (i : Nat) (hi : i < 6) (n : Int) :
    fit ((signs k).getD i 0) n = !((decide (n < 0) && !(belowRow k).getD i false) || (decide (0 < n) && !(aboveRow k).getD i false)) := by
  rcases (by omega : k = 1 ∨ k = 2 ∨ k = 3 ∨ k = 4 ∨ k = 5) with rfl | rfl | rfl | rfl | rfl <;>
    rcases (by omega : i = 0 ∨ i = 1 ∨ i = 2 ∨ i = 3 ∨ i = 4 ∨ i = 5) with rfl | rfl | rfl | rfl | rfl | rfl <;>
    (rw [Bool.eq_iff_iff]; simp [fit, signs, belowRow, aboveRow]; try omega)
theorem any_step {bd z : Int} {b : Bool} (h : outB bd z = b) (ns : List Int) : (z :: ns).any (outB bd) = (b || ns.any (outB bd)) := by rw [List.any_cons, h]
theorem signs_len {k : Int} (h1 : 1 ≤ k) (h5 : k ≤ 5) : (signs k).length = 6 := by
  rcases (by omega : k = 1 ∨ k = 2 ∨ k = 3 ∨ k = 4 ∨ k = 5) with rfl | rfl | rfl | rfl | rfl <;> rfl
theorem signs_none {k : Int} (h : k < 1 ∨ 5 < k) : signs k = [] := by
  unfold signs
  rw [if_neg (by omega), if_neg (by omega), if_neg (by omega), if_neg (by omega), if_neg (by omega)]
theorem signs_ascii (k : Int) : ∀ c ∈ signs k, c.toNat < 128 := by
  unfold signs
  intro c hc
  repeat' split at hc
  all_goals (simp at hc; try (rcases hc with h | h | h | h | h | h <;> subst h <;> decide))
  all_goals (try (rcases hc with h | h | h | h | h <;> subst h <;> decide))
  all_goals (try (rcases hc with h | h | h | h <;> subst h <;> decide))
  all_goals (try (rcases hc with h | h | h <;> subst h <;> decide))
theorem fit_plus {c : UInt8} (n : Int) (h : (c.toNat : Int) = 43) : fit c n = decide (0 ≤ n) := by unfold fit; rw [if_pos (by omega)]
theorem fit_minus {c : UInt8} (n : Int) (h : (c.toNat : Int) = 45) : fit c n = decide (n ≤ 0) := by unfold fit; rw [if_neg (by omega), if_pos (by omega)]
theorem fit_zero {c : UInt8} (n : Int) (h : (c.toNat : Int) = 48) : fit c n = decide (n = 0) := by unfold fit; rw [if_neg (by omega), if_neg (by omega), if_pos (by omega)]
theorem fit_star {c : UInt8} (n : Int) (h : ¬ (c.toNat : Int) = 43) (h' : ¬ (c.toNat : Int) = 45) (h'' : ¬ (c.toNat : Int) = 48) : fit c n = true := by unfold fit; rw [if_neg (by omega), if_neg (by omega), if_neg (by omega)]

end Go.Proofs.Ytajpggnmhkpbkaa.Post
end
