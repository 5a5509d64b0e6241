/- WireSigned returns true for every text, bound and number, and leaves the memory that was there as it was. -/
import Derived.Test.YtfpcpnjegbmdbaaWDecs
import Derived.Lib.Strings
set_option linter.unusedSimpArgs false
set_option linter.unusedVariables false
namespace Go.Proofs.Ytfpcpnjegbmdbaa
open Go.RowKit

/-- a whole number's digits: is there a sign, and the digits behind it -/
def sgB (l : List UInt8) : Bool := decide (l.head? = some 45)
def sgT (l : List UInt8) : List UInt8 := if sgB l = true then l.drop 1 else l
/-- the error's number, of a sign, whether these are digits, what they are worth -/
def sgE' (b md : Bool) (v : Nat) (most : Int) : Int := if md = true ∧ ¬ (b = true ∧ v = 0) then (if most < 0 ∨ most.toNat < v then 5 else 0) else 4
def sgN' (b md : Bool) (v : Nat) (most : Int) : Int := if sgE' b md v most = 0 then (if b = true then -(v : Int) else (v : Int)) else 0
def sgE (l : List UInt8) (most : Int) : Int := sgE' (sgB l) (Dec.mayDec (sgT l)) (Dec.val (sgT l)) most
def sgN (l : List UInt8) (most : Int) : Int := sgN' (sgB l) (Dec.mayDec (sgT l)) (Dec.val (sgT l)) most
theorem mayDec_zero {l : List UInt8} (h : Dec.mayDec l = true) : l = [48] ↔ Dec.val l = 0 := by
  constructor
  · intro e; subst e; rfl
  · intro e
    have h1 := Dec.mayDec_ne h
    rcases Nat.lt_or_ge 1 l.length with h2 | h2
    · have := Dec.mayDec_lead h h2
      rw [e] at this
      have := Nat.pow_pos (n := l.length - 1) (show 0 < 10 by decide)
      omega
    · match l, h1, h2 with
      | [x], _, _ =>
        have ha := Dec.mayDec_all h
        have hd : Dec.isDig x = true := by simpa using ha
        have hv : Dec.val [x] = Dec.dval x := by show Dec.valF 0 [x] = _; rw [Dec.valF_cons]; simp [Dec.valF]
        rw [hv] at e
        have := Dec.isDig_iff.1 hd
        unfold Dec.dval at e
        rw [UInt8.toNat_inj.1 (show x.toNat = (48 : UInt8).toNat by show x.toNat = 48; omega)]
theorem head_of (s : ByteArray) (h : 0 < s.size) : s.data.toList.head? = some s[0] := by
  rw [List.head?_eq_getElem?, List.getElem?_eq_getElem (by simpa using h)]; rfl
theorem tail_of (s : ByteArray) : (s.extract 1 s.size).data.toList = s.data.toList.drop 1 := by
  rw [← ByteArray.toList_eq, Lib.extract_toList, List.take_of_length_le (by rw [List.length_drop]; show _ ≤ s.data.size - 1; simp)]
theorem byte45 (x : UInt8) : (x.toNat : Int) = 45 ↔ x = 45 := by
  constructor
  · intro h; exact UInt8.toNat_inj.1 (by show x.toNat = 45; omega)
  · intro h; subst h; rfl
theorem dec_pair {P : Program} {f : FuncId} {args : Array Value} {w : World} {l : List UInt8} {m : Nat} {a b : Nat} (h : Calls P f args w fun e w' => e = .returned (.tuple #[.int .u64 (Dec.decN l m : Int), .int .i64 (Dec.decE l m : Int)]) ∧ Below w.heap.size w w')
    (hb : Dec.decE l m = b) (ha : Dec.decN l m = a) : Calls P f args w fun e w' => e = .returned (.tuple #[.int .u64 (a : Int), .int .i64 (b : Int)]) ∧ Below w.heap.size w w' := by rw [hb, ha] at h; exact h
theorem decE_no {l : List UInt8} (h : Dec.mayDec l = false) (m : Nat) : Dec.decE l m = 4 ∧ Dec.decN l m = 0 := by
  have e : Dec.decE l m = 4 := by unfold Dec.decE; rw [h]; rfl
  exact ⟨e, by unfold Dec.decN; rw [e]; rfl⟩
theorem decE_far {l : List UInt8} (h : Dec.mayDec l = true) {m : Nat} (hm : m < Dec.val l) : Dec.decE l m = 5 ∧ Dec.decN l m = 0 := by
  have e : Dec.decE l m = 5 := by unfold Dec.decE; rw [if_pos h, if_pos hm]
  exact ⟨e, by unfold Dec.decN; rw [e]; rfl⟩
theorem decE_in {l : List UInt8} (h : Dec.mayDec l = true) {m : Nat} (hm : ¬ m < Dec.val l) : Dec.decE l m = 0 ∧ Dec.decN l m = Dec.val l := by
  have e : Dec.decE l m = 0 := by unfold Dec.decE; rw [if_pos h, if_neg hm]
  exact ⟨e, by unfold Dec.decN; rw [e]; rfl⟩

/-- Signed behind the sign: what Decimal told, and what Signed tells -/
theorem sg_no (b : Bool) (v : Nat) (most : Int) : sgE' b false v most = 4 ∧ sgN' b false v most = 0 := by
  have e : sgE' b false v most = 4 := by unfold sgE'; rw [if_neg (by simp)]
  exact ⟨e, by unfold sgN'; rw [e]; rfl⟩
theorem sg_zero {v : Nat} (hv : v = 0) (most : Int) : sgE' true true v most = 4 ∧ sgN' true true v most = 0 := by
  have e : sgE' true true v most = 4 := by unfold sgE'; rw [if_neg (by simp [hv])]
  exact ⟨e, by unfold sgN'; rw [e]; rfl⟩
theorem sg_far {b : Bool} {v : Nat} {most : Int} (h : ¬ (b = true ∧ v = 0)) (hm : most < 0 ∨ most.toNat < v) : sgE' b true v most = 5 ∧ sgN' b true v most = 0 := by
  have e : sgE' b true v most = 5 := by unfold sgE'; rw [if_pos ⟨rfl, h⟩, if_pos hm]
  exact ⟨e, by unfold sgN'; rw [e]; rfl⟩
theorem sg_in {b : Bool} {v : Nat} {most : Int} (h : ¬ (b = true ∧ v = 0)) (hm : ¬ (most < 0 ∨ most.toNat < v)) : sgE' b true v most = 0 ∧ sgN' b true v most = if b = true then -(v : Int) else (v : Int) := by
  have e : sgE' b true v most = 0 := by unfold sgE'; rw [if_pos ⟨rfl, h⟩, if_neg hm]
  exact ⟨e, by unfold sgN'; rw [e]; rfl⟩

/-- how a text parts into a sign and the digits behind it -/
def Parts (s t : ByteArray) (b : Bool) : Prop :=
  (b = true ∧ t = s.extract 1 s.size ∧ ∃ h : 0 < s.size, (s[0].toNat : Int) = 45) ∨ (b = false ∧ t = s ∧ ∃ h : 0 < s.size, ¬ (s[0].toNat : Int) = 45) ∨ (b = false ∧ t = s ∧ s.size = 0)
theorem parts_of (s : ByteArray) : ∃ t, Parts s t (sgB s.data.toList) ∧ t.data.toList = sgT s.data.toList ∧ t.size ≤ s.size := by
  by_cases h0 : s.size = 0
  · have hl : s.data.toList = [] := by apply List.eq_nil_of_length_eq_zero; simpa using h0
    refine ⟨s, .inr (.inr ⟨by rw [hl]; rfl, rfl, h0⟩), by rw [hl]; rfl, Nat.le_refl _⟩
  · have hp : 0 < s.size := by omega
    have hh := head_of s hp
    by_cases h : s[0] = 45
    · have hb : sgB s.data.toList = true := by unfold sgB; rw [hh, h]; rfl
      refine ⟨s.extract 1 s.size, .inl ⟨hb, rfl, hp, (byte45 _).2 h⟩, ?_, ?_⟩
      · unfold sgT; rw [if_pos hb, tail_of]
      · have := congrArg List.length (tail_of s)
        rw [List.length_drop] at this
        simp at this
        show (s.extract 1 s.size).data.size ≤ s.size
        simp
    · have hb : sgB s.data.toList = false := by unfold sgB; rw [hh]; simp [h]
      refine ⟨s, .inr (.inl ⟨hb, rfl, hp, fun e => h ((byte45 _).1 e)⟩), ?_, Nat.le_refl _⟩
      unfold sgT; rw [if_neg (by simp [hb])]

set_option maxHeartbeats 2000000 in
theorem wSigned_case (s t : ByteArray) (b : Bool) (hs : s.size ≤ 1000) (hp : Parts s t b) (most mm : Int) (hmm : (most ≤ 0 ∧ mm = 0) ∨ (0 < most ∧ most ≤ 9223372036854775807 ∧ mm = most)) (ev x : Nat)
    (hc : ∀ W, Calls Try.prog 24 #[.string t, .int .u64 mm] W fun e w' => e = .returned (.tuple #[.int .u64 (x : Int), .int .i64 (ev : Int)]) ∧ Below W.heap.size W w') (E N : Int)
    (hleaf : (ev = 4 ∧ E = 4 ∧ N = 0) ∨ (ev = 0 ∧ b = true ∧ x = 0 ∧ E = 4 ∧ N = 0) ∨ (ev = 5 ∧ E = 5 ∧ N = 0) ∨ (ev = 0 ∧ b = true ∧ 0 < x ∧ most < 0 ∧ E = 5 ∧ N = 0) ∨ (ev = 0 ∧ b = false ∧ most < 0 ∧ E = 5 ∧ N = 0) ∨
      (ev = 0 ∧ b = true ∧ 0 < x ∧ x ≤ 9223372036854775807 ∧ 0 ≤ most ∧ E = 0 ∧ N = -(x : Int)) ∨ (ev = 0 ∧ b = false ∧ x ≤ 9223372036854775807 ∧ 0 ≤ most ∧ E = 0 ∧ N = (x : Int))) (w : World) :
    Calls Try.prog 30 #[.string s, .int .i64 most] w fun e w' => e = .returned (.tuple #[.int .i64 N, .int .i64 E]) ∧ Below w.heap.size w w' := by
  have HC := Lib.hid hc; clear hc
  have hext : s.extract 0 s.size = s := by
    apply ByteArray.ext
    simp [ByteArray.data_extract]
  rcases hp with ⟨rfl, rfl, hp, h45⟩ | ⟨rfl, rfl, hp, h45⟩ | ⟨rfl, rfl, hp⟩
  all_goals
    rcases hleaf with ⟨rfl, rfl, rfl⟩ | ⟨rfl, hb, rfl, rfl, rfl⟩ | ⟨rfl, rfl, rfl⟩ | ⟨rfl, hb, hx, hm, rfl, rfl⟩ | ⟨rfl, hb, hm, rfl, rfl⟩ | ⟨rfl, hb, hx, hx2, hm, rfl, rfl⟩ | ⟨rfl, hb, hx2, hm, rfl, rfl⟩
  all_goals
    first
      | (exfalso; revert hb; decide)
      | skip
  all_goals
    rcases hmm with ⟨hm1, rfl⟩ | ⟨hm1, hm2, rfl⟩
  all_goals
    first
      | omega
      | (try clear hb
         go_enter Try.func30, Try.ntmps30
         go_wp2_with fail
         refine (HC.out _).mono ?_
         rintro e w1 ⟨rfl, hb1⟩
         go_wp2
         go_ret2
         exact ⟨rfl, hb1⟩)

theorem wSigned_any (s : ByteArray) (hs : s.size ≤ 1000) (most : Int) (m0 : -9223372036854775808 ≤ most) (m1 : most ≤ 9223372036854775807) (w : World) :
    Calls Try.prog 30 #[.string s, .int .i64 most] w fun e w' => e = .returned (.tuple #[.int .i64 (sgN s.data.toList most), .int .i64 (sgE s.data.toList most)]) ∧ Below w.heap.size w w' := by
  obtain ⟨t, hp, ht, hsz⟩ := parts_of s
  unfold sgN sgE
  rw [← ht]
  obtain ⟨mm, hmm, hm0, hm1, hm2⟩ : ∃ mm : Int, ((most ≤ 0 ∧ mm = 0) ∨ (0 < most ∧ most ≤ 9223372036854775807 ∧ mm = most)) ∧ 0 ≤ mm ∧ mm ≤ 9223372036854775807 ∧ mm.toNat = most.toNat := by
    rcases (by omega : 0 < most ∨ most ≤ 0) with h | h
    · exact ⟨most, .inr ⟨h, m1, rfl⟩, by omega, m1, rfl⟩
    · exact ⟨0, .inl ⟨h, rfl⟩, by omega, by omega, by omega⟩
  have hD := fun W => wDecimal_any t (by omega) mm hm0 (by omega) W
  generalize sgB s.data.toList = b at *
  cases hmd : Dec.mayDec t.data.toList with
  | false =>
    have h1 := decE_no hmd mm.toNat
    have h2 := sg_no b (Dec.val t.data.toList) most
    rw [h2.1, h2.2]
    exact wSigned_case s t b hs hp most mm hmm 4 0 (fun W => dec_pair (hD W) h1.1 h1.2) 4 0 (.inl ⟨rfl, rfl, rfl⟩) w
  | true =>
    generalize hv : Dec.val t.data.toList = v at *
    by_cases hfar : mm.toNat < v
    · have h1 := decE_far hmd (m := mm.toNat) (by rw [hv]; exact hfar)
      have h2 := sg_far (b := b) (v := v) (most := most) (fun h => by omega) (.inr (by omega))
      rw [h2.1, h2.2]
      exact wSigned_case s t b hs hp most mm hmm 5 0 (fun W => dec_pair (hD W) h1.1 h1.2) 5 0 (.inr (.inr (.inl ⟨rfl, rfl, rfl⟩))) w
    · have h1 := decE_in hmd (m := mm.toNat) (by rw [hv]; exact hfar)
      have hC := fun W => dec_pair (hD W) h1.1 h1.2
      rw [hv] at hC
      cases b with
      | true =>
        by_cases hz : v = 0
        · have h2 := sg_zero hz most
          rw [h2.1, h2.2]
          exact wSigned_case s t true hs hp most mm hmm 0 v hC 4 0 (.inr (.inl ⟨rfl, rfl, hz, rfl, rfl⟩)) w
        · by_cases hneg : most < 0
          · have h2 := sg_far (b := true) (v := v) (most := most) (fun h => hz h.2) (.inl hneg)
            rw [h2.1, h2.2]
            exact wSigned_case s t true hs hp most mm hmm 0 v hC 5 0 (.inr (.inr (.inr (.inl ⟨rfl, rfl, by omega, hneg, rfl, rfl⟩)))) w
          · have h2 := sg_in (b := true) (v := v) (most := most) (fun h => hz h.2) (fun h => by omega)
            rw [h2.1, h2.2]
            exact wSigned_case s t true hs hp most mm hmm 0 v hC 0 _ (.inr (.inr (.inr (.inr (.inr (.inl ⟨rfl, rfl, by omega, by omega, by omega, rfl, rfl⟩)))))) w
      | false =>
        by_cases hneg : most < 0
        · have h2 := sg_far (b := false) (v := v) (most := most) (fun h => by cases h.1) (.inl hneg)
          rw [h2.1, h2.2]
          exact wSigned_case s t false hs hp most mm hmm 0 v hC 5 0 (.inr (.inr (.inr (.inr (.inl ⟨rfl, rfl, hneg, rfl, rfl⟩))))) w
        · have h2 := sg_in (b := false) (v := v) (most := most) (fun h => by cases h.1) (fun h => by omega)
          rw [h2.1, h2.2]
          exact wSigned_case s t false hs hp most mm hmm 0 v hC 0 _ (.inr (.inr (.inr (.inr (.inr (.inr ⟨rfl, rfl, by omega, by omega, rfl, rfl⟩)))))) w

/-- the reference's own: the same cases -/
theorem minus_zero (s t : ByteArray) (b : Bool) (hp : Parts s t b) (hm : Dec.mayDec t.data.toList = true) : (s.toList == [45, 48]) = (b && decide (Dec.val t.data.toList = 0)) := by
  rw [str_lit]
  have hz := mayDec_zero hm
  rcases hp with ⟨rfl, rfl, hp, h45⟩ | ⟨rfl, ht, hp, h45⟩ | ⟨rfl, ht, hp⟩
  · have h0 : s.data.toList = 45 :: s.data.toList.drop 1 := by
      have h1 := head_of s hp
      rw [(byte45 _).1 h45] at h1
      cases hl : s.data.toList with
      | nil => rw [hl] at h1; cases h1
      | cons a r => rw [hl] at h1; injection h1 with h1; rw [h1]; rfl
    rw [tail_of] at hz ⊢
    rw [Bool.true_and, Bool.eq_iff_iff, decide_eq_true_eq, decide_eq_true_eq, ← hz]
    constructor
    · intro h; rw [h]; rfl
    · intro h; rw [h0, h]
  · have ht := ht.symm; subst ht; rw [Bool.false_and, decide_eq_false_iff_not]
    intro h
    have h1 := head_of s hp
    rw [h] at h1
    injection h1 with h1
    exact h45 ((byte45 _).2 h1.symm)
  · have ht := ht.symm; subst ht; rw [Bool.false_and, decide_eq_false_iff_not]
    intro h
    have := congrArg List.length h
    rw [show s.data.toList.length = s.size from by show s.data.toList.length = s.data.size; simp, hp] at this
    simp at this

set_option maxHeartbeats 2000000 in
theorem rSigned_case (s t : ByteArray) (b md : Bool) (v : Nat) (hs : s.size ≤ 1000) (hp : Parts s t b) (most : Int) (m1 : most ≤ 9223372036854775807)
    (hmay : ∀ W, Calls Try.prog 55 #[.string t] W fun e w' => e = .returned (.bool md) ∧ W = w')
    (hz : md = true → (s.toList == [45, 48]) = (b && decide (v = 0)))
    (hab : md = true → 0 ≤ most → ∀ W, Calls Try.prog 56 #[.string t, .int .u64 most] W fun e w' => e = .returned (.bool (decide (most.toNat < v))) ∧ Below W.heap.size W w')
    (hwo : md = true → v ≤ 9223372036854775807 → ∀ W, Calls Try.prog 57 #[.string t] W fun e w' => e = .returned (.int .u64 (v : Int)) ∧ W = w') (w : World) :
    Calls Try.prog 31 #[.string s, .int .i64 most] w fun e w' => e = .returned (.tuple #[.int .i64 (sgN' b md v most), .int .i64 (sgE' b md v most)]) ∧ Below w.heap.size w w' := by
  have HM := Lib.hid hmay; clear hmay
  have hne : b = true → (s.toList == t.toList) = false := by
    intro hb
    subst hb
    rcases hp with ⟨_, rfl, hp, h45⟩ | ⟨h, _⟩ | ⟨h, _⟩
    · rw [beq_eq_false_iff_ne]
      intro e
      rw [ByteArray.toList_eq, ByteArray.toList_eq, tail_of] at e
      have := congrArg List.length e
      rw [List.length_drop, show s.data.toList.length = s.size from by show s.data.toList.length = s.data.size; simp] at this
      omega
    · cases h
    · cases h
  have hempty : 0 < s.size → (s.toList == []) = false := by
    intro h
    rw [str_lit, decide_eq_false_iff_not]
    intro e
    have := congrArg List.length e
    rw [show s.data.toList.length = s.size from by show s.data.toList.length = s.data.size; simp, List.length_nil] at this
    omega
  cases md with
  | false =>
    have h2 := sg_no b v most
    rw [h2.1, h2.2]
    clear hz hab hwo hne h2
    rcases hp with ⟨rfl, rfl, hp, h45⟩ | ⟨rfl, ht, hp, h45⟩ | ⟨rfl, ht, hp⟩
    · have he := hempty hp
      clear hempty
      go_enter Try.func31, Try.ntmps31
      go_wp2_with fail
      refine (HM.out _).mono ?_
      rintro e w1 ⟨rfl, rfl⟩
      go_wp2
      go_ret2
      exact ⟨rfl, Below.refl _ _⟩
    · have ht := ht.symm; subst ht
      have he := hempty hp
      clear hempty
      go_enter Try.func31, Try.ntmps31
      go_wp2_with fail
      refine (HM.out _).mono ?_
      rintro e w1 ⟨rfl, rfl⟩
      go_wp2
      go_ret2
      exact ⟨rfl, Below.refl _ _⟩
    · have ht := ht.symm; subst ht
      have hl : s.data.toList = [] := by apply List.eq_nil_of_length_eq_zero; simpa using hp
      have he := str_lit s []
      rw [hl] at he
      clear hempty hl
      go_enter Try.func31, Try.ntmps31
      go_wp2_with fail
      refine (HM.out _).mono ?_
      rintro e w1 ⟨rfl, rfl⟩
      go_wp2
      go_ret2
      exact ⟨rfl, Below.refl _ _⟩
  | true =>
    have hz' := hz rfl
    have HAB := Lib.hid (hab rfl)
    have HWO := Lib.hid (hwo rfl)
    clear hz hab hwo
    have hshape : (b = true ∧ t = s.extract 1 s.size ∧ (s.toList == []) = false ∧ ∃ h : 0 < s.size, (s[0].toNat : Int) = 45) ∨ (b = false ∧ t = s ∧ (s.toList == []) = false ∧ ∃ h : 0 < s.size, ¬ (s[0].toNat : Int) = 45) ∨ (b = false ∧ t = s ∧ (s.toList == []) = true ∧ s.size = 0) := by
      rcases hp with ⟨rfl, ht, hp, h45⟩ | ⟨rfl, ht, hp, h45⟩ | ⟨rfl, ht, hp⟩
      · exact .inl ⟨rfl, ht, hempty hp, hp, h45⟩
      · exact .inr (.inl ⟨rfl, ht, hempty hp, hp, h45⟩)
      · refine .inr (.inr ⟨rfl, ht, ?_, hp⟩)
        have hl : s.data.toList = [] := by apply List.eq_nil_of_length_eq_zero; simpa using hp
        rw [str_lit, hl]; rfl
    clear hempty hp
    by_cases hbz : b = true ∧ v = 0
    · obtain ⟨rfl, hv⟩ := hbz
      have h2 := sg_zero hv most
      rw [h2.1, h2.2]
      rw [hv] at hz'
      have hz2 : (s.toList == [45, 48]) = true := by rw [hz']; rfl
      clear h2 hz' hne hv
      rcases hshape with ⟨_, rfl, he, hp, h45⟩ | ⟨h, _⟩ | ⟨h, _⟩
      · go_enter Try.func31, Try.ntmps31
        go_wp2_with fail
        refine (HM.out _).mono ?_
        rintro e w1 ⟨rfl, rfl⟩
        go_wp2
        go_ret2
        exact ⟨rfl, Below.refl _ _⟩
      · cases h
      · cases h
    · have hz2 : (s.toList == [45, 48]) = false := by
        rw [hz']
        cases b with
        | false => rfl
        | true => have : ¬ v = 0 := fun h => hbz ⟨rfl, h⟩
                  simp [this]
      clear hz'
      by_cases hneg : most < 0
      · have h2 := sg_far (b := b) (v := v) (most := most) hbz (.inl hneg)
        rw [h2.1, h2.2]
        clear h2 hne
        rcases hshape with ⟨rfl, rfl, he, hp, h45⟩ | ⟨rfl, ht, he, hp, h45⟩ | ⟨rfl, ht, he, hp⟩
        · go_enter Try.func31, Try.ntmps31
          go_wp2_with fail
          refine (HM.out _).mono ?_
          rintro e w1 ⟨rfl, rfl⟩
          go_wp2
          go_ret2
          exact ⟨rfl, Below.refl _ _⟩
        · have ht := ht.symm; subst ht
          go_enter Try.func31, Try.ntmps31
          go_wp2_with fail
          refine (HM.out _).mono ?_
          rintro e w1 ⟨rfl, rfl⟩
          go_wp2
          go_ret2
          exact ⟨rfl, Below.refl _ _⟩
        · have ht := ht.symm; subst ht
          go_enter Try.func31, Try.ntmps31
          go_wp2_with fail
          refine (HM.out _).mono ?_
          rintro e w1 ⟨rfl, rfl⟩
          go_wp2
          go_ret2
          exact ⟨rfl, Below.refl _ _⟩
      · have HA := Lib.hid (HAB.out (by omega))
        have hpos : 0 ≤ most := by omega
        by_cases hfar : most.toNat < v
        · have h2 := sg_far (b := b) (v := v) (most := most) hbz (.inr hfar)
          rw [h2.1, h2.2]
          rw [show decide (most.toNat < v) = true from by simpa using hfar] at HA
          clear h2 hne hfar hbz
          rcases hshape with ⟨rfl, rfl, he, hp, h45⟩ | ⟨rfl, ht, he, hp, h45⟩ | ⟨rfl, ht, he, hp⟩
          · go_enter Try.func31, Try.ntmps31
            go_wp2_with fail
            refine (HM.out _).mono ?_
            rintro e w1 ⟨rfl, rfl⟩
            go_wp2_with fail
            refine (HA.out _).mono ?_
            rintro e w2 ⟨rfl, hb2⟩
            go_wp2
            go_ret2
            exact ⟨rfl, hb2⟩
          · have ht := ht.symm; subst ht
            go_enter Try.func31, Try.ntmps31
            go_wp2_with fail
            refine (HM.out _).mono ?_
            rintro e w1 ⟨rfl, rfl⟩
            go_wp2_with fail
            refine (HA.out _).mono ?_
            rintro e w2 ⟨rfl, hb2⟩
            go_wp2
            go_ret2
            exact ⟨rfl, hb2⟩
          · have ht := ht.symm; subst ht
            go_enter Try.func31, Try.ntmps31
            go_wp2_with fail
            refine (HM.out _).mono ?_
            rintro e w1 ⟨rfl, rfl⟩
            go_wp2_with fail
            refine (HA.out _).mono ?_
            rintro e w2 ⟨rfl, hb2⟩
            go_wp2
            go_ret2
            exact ⟨rfl, hb2⟩
        · have h2 := sg_in (b := b) (v := v) (most := most) hbz (fun h => by omega)
          rw [h2.1, h2.2]
          rw [show decide (most.toNat < v) = false from by simpa using hfar] at HA
          have hv : v ≤ 9223372036854775807 := by omega
          have HW := Lib.hid (HWO.out hv)
          clear h2 hfar hbz
          rcases hshape with ⟨rfl, rfl, he, hp, h45⟩ | ⟨rfl, ht, he, hp, h45⟩ | ⟨rfl, ht, he, hp⟩
          · have hne2 := hne rfl
            clear hne
            go_enter Try.func31, Try.ntmps31
            go_wp2_with fail
            refine (HM.out _).mono ?_
            rintro e w1 ⟨rfl, rfl⟩
            go_wp2_with fail
            refine (HA.out _).mono ?_
            rintro e w2 ⟨rfl, hb2⟩
            go_wp2_with fail
            refine (HW.out _).mono ?_
            rintro e w3 ⟨rfl, rfl⟩
            go_wp2
            go_ret2
            exact ⟨rfl, hb2⟩
          · have ht := ht.symm; subst ht
            clear hne
            go_enter Try.func31, Try.ntmps31
            go_wp2_with fail
            refine (HM.out _).mono ?_
            rintro e w1 ⟨rfl, rfl⟩
            go_wp2_with fail
            refine (HA.out _).mono ?_
            rintro e w2 ⟨rfl, hb2⟩
            go_wp2_with fail
            refine (HW.out _).mono ?_
            rintro e w3 ⟨rfl, rfl⟩
            go_wp2
            go_ret2
            exact ⟨rfl, hb2⟩
          · have ht := ht.symm; subst ht
            clear hne
            go_enter Try.func31, Try.ntmps31
            go_wp2_with fail
            refine (HM.out _).mono ?_
            rintro e w1 ⟨rfl, rfl⟩
            go_wp2_with fail
            refine (HA.out _).mono ?_
            rintro e w2 ⟨rfl, hb2⟩
            go_wp2_with fail
            refine (HW.out _).mono ?_
            rintro e w3 ⟨rfl, rfl⟩
            go_wp2
            go_ret2
            exact ⟨rfl, hb2⟩

theorem rSigned_any (s : ByteArray) (hs : s.size ≤ 1000) (most : Int) (m0 : -9223372036854775808 ≤ most) (m1 : most ≤ 9223372036854775807) (w : World) :
    Calls Try.prog 31 #[.string s, .int .i64 most] w fun e w' => e = .returned (.tuple #[.int .i64 (sgN s.data.toList most), .int .i64 (sgE s.data.toList most)]) ∧ Below w.heap.size w w' := by
  obtain ⟨t, hp, ht, hsz⟩ := parts_of s
  unfold sgN sgE
  rw [← ht]
  exact rSigned_case s t _ _ _ hs hp most m1 (fun W => rMayDecimal_any t (by omega) W) (fun h => minus_zero s t _ hp h) (fun h h0 W => rAbove_any t h (by omega) most h0 (by omega) W)
    (fun h hv W => rworth01_any t (Dec.mayDec_all h) (by omega) (by omega) W) w
def wholeL (n : Int) : List UInt8 := if n < 0 then 45 :: Dec.digits (-n).toNat else Dec.digits n.toNat

set_option maxHeartbeats 400000 in
theorem rWhole_any (n : Int) (n0 : -9223372036854775808 ≤ n) (n1 : n ≤ 9223372036854775807) (w : World) :
    Calls Try.prog 32 #[.int .i64 n] w fun e w' => e = .returned (.string ⟨(wholeL n).toArray⟩) ∧ Below w.heap.size w w' := by
  by_cases h : n < 0
  · have hl : wholeL n = 45 :: Dec.digits (-n).toNat := by unfold wholeL; rw [if_pos h]
    have HT := Lib.hid (rText01_any (-n) (by omega) (by omega))
    have hdl := Dec.digits_length_le (-n).toNat 19 (by omega)
    rw [hl]
    clear hl
    generalize Dec.digits (-n).toNat = d at *
    have HS : Hid ((⟨#[45]⟩ : ByteArray) ++ ⟨d.toArray⟩ = ⟨(45 :: d).toArray⟩) := Lib.hid (by have := cons_string 45 d; injection this)
    have hsz : (⟨d.toArray⟩ : ByteArray).size ≤ 20 := by simp [ByteArray.size]; omega
    rw [← HS.out]
    generalize (⟨d.toArray⟩ : ByteArray) = D at *
    go_enter Try.func32, Try.ntmps32
    go_wp2_with fail
    rw [show -(n + 1) + 1 = -n from by omega]
    refine (HT.out _).mono ?_
    rintro e w1 ⟨rfl, hb⟩
    go_wp2
    go_ret
    exact ⟨rfl, hb⟩
  · have hl : wholeL n = Dec.digits n.toNat := by unfold wholeL; rw [if_neg h]
    have HT := Lib.hid (rText01_any n (by omega) (by omega))
    rw [hl]
    clear hl
    generalize (⟨(Dec.digits n.toNat).toArray⟩ : ByteArray) = D at *
    go_enter Try.func32, Try.ntmps32
    go_wp2_with fail
    refine (HT.out _).mono ?_
    rintro e w1 ⟨rfl, hb⟩
    go_wp2
    go_ret
    exact ⟨rfl, hb⟩
theorem whole_in (n : Int) (most : Int) : (0 ≤ n ∧ sgE (wholeL n) most = (if most < 0 ∨ most < n then 5 else 0) ∧ sgN (wholeL n) most = (if most < 0 ∨ most < n then 0 else n)) ∨
    (n < 0 ∧ sgE (wholeL n) most = (if most < 0 ∨ most < -n then 5 else 0) ∧ sgN (wholeL n) most = (if most < 0 ∨ most < -n then 0 else n)) := by
  by_cases h : n < 0
  · right
    have hl : wholeL n = 45 :: Dec.digits (-n).toNat := by unfold wholeL; rw [if_pos h]
    have hb : sgB (wholeL n) = true := by rw [hl]; rfl
    have ht : sgT (wholeL n) = Dec.digits (-n).toNat := by unfold sgT; rw [if_pos hb, hl]; rfl
    unfold sgE sgN
    rw [hb, ht, Dec.mayDec_digits, Dec.digits_val]
    have hz : ¬ (true = true ∧ (-n).toNat = 0) := fun h' => by omega
    refine ⟨h, ?_⟩
    by_cases hf : most < 0 ∨ most < -n
    · have := sg_far hz (show most < 0 ∨ most.toNat < (-n).toNat by omega)
      rw [this.1, this.2, if_pos hf, if_pos hf]; exact ⟨rfl, rfl⟩
    · have := sg_in hz (show ¬ (most < 0 ∨ most.toNat < (-n).toNat) by omega)
      rw [this.1, this.2, if_neg hf, if_neg hf]
      refine ⟨rfl, ?_⟩
      rw [if_pos rfl]; omega
  · left
    have hl : wholeL n = Dec.digits n.toNat := by unfold wholeL; rw [if_neg h]
    have hb : sgB (wholeL n) = false := by
      rw [hl]
      unfold sgB
      have h1 := Dec.digits_all n.toNat
      cases hd : Dec.digits n.toNat with
      | nil => rfl
      | cons x r =>
        rw [hd] at h1
        simp only [List.all_cons, Bool.and_eq_true] at h1
        have := Dec.isDig_iff.1 h1.1
        rw [decide_eq_false_iff_not]
        intro e
        injection e with e
        rw [e] at this
        have h2 := this.1
        revert h2; decide
    have ht : sgT (wholeL n) = Dec.digits n.toNat := by unfold sgT; rw [if_neg (by simp [hb]), hl]
    unfold sgE sgN
    rw [hb, ht, Dec.mayDec_digits, Dec.digits_val]
    have hz : ¬ (false = true ∧ n.toNat = 0) := fun h' => by cases h'.1
    refine ⟨by omega, ?_⟩
    by_cases hf : most < 0 ∨ most < n
    · have := sg_far hz (show most < 0 ∨ most.toNat < n.toNat by omega)
      rw [this.1, this.2, if_pos hf, if_pos hf]; exact ⟨rfl, rfl⟩
    · have := sg_in hz (show ¬ (most < 0 ∨ most.toNat < n.toNat) by omega)
      rw [this.1, this.2, if_neg hf, if_neg hf]
      refine ⟨rfl, ?_⟩
      rw [if_neg (by decide)]; omega
end Go.Proofs.Ytfpcpnjegbmdbaa
namespace Go.Proofs.Ytfpcpnjegbmdbaa.wireSigned
open Go.ChangeShapes Go.WideShapes Go.ChangeAt Go.RowKit
open Go.ChangeMaps (open_string shut_string)

set_option maxHeartbeats 1000000 in
theorem walk (s : ByteArray) (most n : Int) (ws : s.size ≤ maxLen) (wmost : (Lit.int .i64 most).wf = true) (wn : (Lit.int .i64 n).wf = true) (w : World) :
    Calls Try.prog 7 #[.string s, .int .i64 most, .int .i64 n] w fun e w' => e = .returned (.bool true) ∧ Below w.heap.size w w' := by
  have hm := i64_bdW wmost
  have hn := i64_bdW wn
  clear wmost wn
  obtain ⟨m0, m1⟩ := hm
  obtain ⟨n0, n1⟩ := hn
  unfold maxLen at ws
  by_cases h100 : 100 < s.size
  · go_enter Try.func7, Try.ntmps7
    go_wp2_with fail
    refine (known01_any _).mono ?_
    rintro e w1 ⟨rfl, hb1⟩
    go_wp2
    go_ret
    exact ⟨rfl, hb1⟩
  · have H1 := Lib.hid (wSigned_any s (by omega) most m0 m1)
    have H2 := Lib.hid (rSigned_any s (by omega) most m0 m1)
    have H3 := Lib.hid (rWhole_any n n0 n1)
    have hwl : (wholeL n).length ≤ 21 := by
      unfold wholeL
      split
      · have := Dec.digits_length_le (-n).toNat 19 (by omega); simp; omega
      · have := Dec.digits_length_le n.toNat 19 (by omega); omega
    have H4 := Lib.hid (wSigned_any ⟨(wholeL n).toArray⟩ (by simp [ByteArray.size]; omega) most m0 m1)
    rw [show (⟨(wholeL n).toArray⟩ : ByteArray).data.toList = wholeL n from rfl] at H4
    have hin := whole_in n most
    generalize (⟨(wholeL n).toArray⟩ : ByteArray) = T at *
    generalize sgN s.data.toList most = x at *
    generalize sgE s.data.toList most = ev at *
    generalize sgN (wholeL n) most = z at *
    generalize sgE (wholeL n) most = g at *
    clear hwl
    have hin' : (0 ≤ n ∧ most < 0 ∧ g = 5 ∧ z = 0) ∨ (0 ≤ n ∧ 0 ≤ most ∧ most < n ∧ g = 5 ∧ z = 0) ∨ (0 ≤ n ∧ 0 ≤ most ∧ n ≤ most ∧ g = 0 ∧ z = n) ∨ (n < 0 ∧ most < 0 ∧ g = 5 ∧ z = 0) ∨ (n < 0 ∧ 0 ≤ most ∧ most ≤ -(n + 1) ∧ g = 5 ∧ z = 0) ∨ (n < 0 ∧ 0 ≤ most ∧ -(n + 1) < most ∧ g = 0 ∧ z = n) := by
      rcases hin with ⟨h, hg, hz⟩ | ⟨h, hg, hz⟩
      · by_cases h1 : most < 0
        · rw [if_pos (.inl h1)] at hg hz; exact .inl ⟨h, h1, hg, hz⟩
        · by_cases h2 : most < n
          · rw [if_pos (.inr h2)] at hg hz; exact .inr (.inl ⟨h, by omega, h2, hg, hz⟩)
          · rw [if_neg (by omega)] at hg hz; exact .inr (.inr (.inl ⟨h, by omega, by omega, hg, hz⟩))
      · by_cases h1 : most < 0
        · rw [if_pos (.inl h1)] at hg hz; exact .inr (.inr (.inr (.inl ⟨h, h1, hg, hz⟩)))
        · by_cases h2 : most < -n
          · rw [if_pos (.inr h2)] at hg hz; exact .inr (.inr (.inr (.inr (.inl ⟨h, by omega, by omega, hg, hz⟩))))
          · rw [if_neg (by omega)] at hg hz; exact .inr (.inr (.inr (.inr (.inr ⟨h, by omega, by omega, hg, hz⟩))))
    clear hin
    rcases hin' with ⟨h1, h2, rfl, rfl⟩ | ⟨h1, h2, h3, rfl, rfl⟩ | ⟨h1, h2, h3, rfl, rfl⟩ | ⟨h1, h2, rfl, rfl⟩ | ⟨h1, h2, h3, rfl, rfl⟩ | ⟨h1, h2, h3, rfl, rfl⟩
    all_goals
      go_enter Try.func7, Try.ntmps7
      go_wp2_with fail
      refine (H1.out _).mono ?_
      rintro e w1 ⟨rfl, hb1⟩
      go_wp2_with fail
      refine (H2.out _).mono ?_
      rintro e w2 ⟨rfl, hb2⟩
      replace hb2 := below_callW hb1 hb2
      clear hb1
      go_wp2_with fail
      refine (H3.out _).mono ?_
      rintro e w3 ⟨rfl, hb3⟩
      replace hb3 := below_callW hb2 hb3
      clear hb2
      go_wp2_with fail
      refine (H4.out _).mono ?_
      rintro e w4 ⟨rfl, hb4⟩
      replace hb4 := below_callW hb3 hb4
      clear hb3
      go_wp2_with fail
      refine (known01_any _).mono ?_
      rintro e w5 ⟨rfl, hb5⟩
      go_wp2
      go_ret
      first | exact ⟨rfl, below_callW hb4 hb5⟩ | exact ⟨ret_boolD (by simp; omega), below_callW hb4 hb5⟩

set_option maxRecDepth 100000 in
theorem lifted (os : Os) (started : os.Started) (H : Type) (enc : TypeId × Value → H) :
    ReturnsInHanded {} Try.checked os 7 .any (Rows.wireSignedSpec.pre6 enc Try.prog Try.f7 Rows.wireSignedRow.domain false) (Rows.wireSignedSpec.post enc Try.prog Try.f7 false true false false) := by
  refine returnsInHanded_of_change (C := Try.checked) own started (by kernel_rfl) Try.func7
    (ChangeSpec.witness6 (enc := enc) (C := Try.checked) false ⟨#[], #[.string ByteArray.empty, .int .i64 0, .int .i64 0], []⟩ 8 (by kernel_rfl) (by kernel_rfl) (by kernel_rfl) (by kernel_rfl)) ?_
  intro W base args ds gs before hval0 hW hcnd _
  have hval : ∀ (j : Nat) t v, Try.f7.params[j]? = some t → args[j]? = some v → Value.okWide Try.prog W .any base t v := hval0
  have hW' := hW
  obtain ⟨p, q, hA0, hV, rfl, hfz, hnd⟩ := hW
  have hA : DataW.TrodAll enc Try.prog W 0 (fun _ => true) true Try.f7.params.toList args.toList ds p := hA0
  rw [Try.params7] at hA hval
  obtain ⟨v0, vs0, d0, ds0, p0, q0, hargs, rfl, rfl, h0, r0⟩ := trodAll_cons hA
  obtain ⟨v1, vs1, d1, ds1, p1, q1, rfl, rfl, rfl, h1, r1⟩ := trodAll_cons r0
  obtain ⟨v2, vs2, d2, ds2, p2, q2, rfl, rfl, rfl, h2, r2⟩ := trodAll_cons r1
  obtain ⟨rfl, rfl, rfl⟩ := trodAll_nil r2
  obtain rfl : args = #[v0, v1, v2] := by cases args; simp_all
  obtain ⟨s, rfl, rfl, rfl, ws⟩ := open_string Try.underlying9 (hval 0 9 v0 rfl rfl) h0
  obtain ⟨most, rfl, rfl, rfl, wmost⟩ := open_int Try.underlying2 (hval 1 2 v1 rfl rfl) h1
  obtain ⟨n, rfl, rfl, rfl, wn⟩ := open_int Try.underlying2 (hval 2 2 v2 rfl rfl) h2
  clear hA0 hval0
  refine (walk s most n ws wmost wn W).mono fun e W' ⟨he, hg⟩ => ?_
  subst he
  exact ⟨_, rfl, post_law laidOut rfl hW' ⟨rfl, rfl, rfl⟩ (by kernel_rfl) hg Try.underlying4 rfl⟩

theorem proved : Rows.WireSignedSaid :=
  OpenClaim.holds_of_wide 7 Try.f7 rfl rfl rfl rfl rfl rfl rfl ⟨rfl, rfl, rfl, rfl, rfl⟩ rfl rfl rfl rfl rfl (by kernel_rfl) Try.func7 (by kernel_rfl)
    (of_decide_eq_true (by kernel_rfl)) (by unfold Func.isWrapper; first | (rw [if_pos (by decide +kernel)]; kernel_rfl) | (rw [if_neg (by decide +kernel)]; exact ⟨rfl, rfl⟩))
    (fun os started H enc _ => lifted os started H enc)
#print axioms proved
end Go.Proofs.Ytfpcpnjegbmdbaa.wireSigned
