/- Contracts of the reference's Check, Parts, MayStock, In, and of the program's MayStock, In. Records in memory: more words. Contracts: the ticket package's small functions: day, some, numbered, other, holder, status. -/
import Derived.Test.YtadabjkhiaidcaaDsl5
import Derived.Test.YtadabjkhiaidcaaDsl2
import Derived.Test.YtadabjkhiaidcaaDsl4
import Derived.Deep.QuietTactic
import Derived.BigQuiet

section
set_option linter.unusedSimpArgs false
set_option linter.unusedVariables false
namespace Go.Proofs.Ytadabjkhiaidcaa
open Go.RowKit

/-- old cells read as before behind a call that only makes memory -/
theorem bcell {W w1 : World} (hb : Below W.heap.size W w1) : (∀ b o, b < W.heap.size → w1.cell? ⟨b, o, none⟩ = W.cell? ⟨b, o, none⟩) ∧ (∀ b o, b < W.heap.size → w1.frozen? ⟨b, o, none⟩ = W.frozen? ⟨b, o, none⟩) :=
  ⟨fun b o h => hb.cell (p := ⟨b, o, none⟩) h, fun b o h => hb.frozen (p := ⟨b, o, none⟩) h⟩
theorem below_drewE {B : Nat} {a w : World} (h : Below B a w) (n : Nat) : Below B a (w.drewN n) := h.trans ⟨rfl, rfl, rfl, Nat.le_refl _, fun _ _ => rfl⟩
theorem div10 (N : Nat) : ((N / 10000000000 : Nat) : Int) = (N : Int) / 10 / 1000000000 := by omega
theorem digits_size (n : Nat) (h : n ≤ 18446744073709551615) : (⟨(Dec.digits n).toArray⟩ : ByteArray).size ≤ 20 := by
  rw [size_string]; exact Dec.digits_length_le n 19 (by omega)
theorem toList_mk (l : List UInt8) : (⟨l.toArray⟩ : ByteArray).data.toList = l := by simp

set_option maxHeartbeats 400000 in
theorem rCheck_any (n : Int) (h0 : 0 ≤ n) (h1 : n ≤ 18446744073709551615) (w : World) :
    Calls Try.prog 92 #[.int .u64 n] w fun e w' => e = .returned (.int .i64 (Num.check n)) ∧ Below w.heap.size w w' := by
  obtain ⟨N, rfl⟩ := Int.eq_ofNat_of_zero_le h0
  have hE := Num.ofE_digits N
  have hsz := digits_size N (by omega)
  have hf := Num.check_far N
  have h4 := Num.check_ne4 N
  go_enter Try.func92, Try.ntmps92
  have HE := Lib.hid hE; clear hE
  have HF := Lib.hid hf; clear hf
  have H4 := Lib.hid h4; clear h4
  go_wp2_with fail
  refine (rdigits_any _ h0 h1 _).mono ?_
  rintro e w1 ⟨rfl, hb1⟩
  rw [show ((N : Nat) : Int).toNat = N from by omega]
  go_wp2_with fail
  refine (rOf_any _ (by unfold maxLen; omega) _).mono ?_
  rintro e w2 ⟨rfl, m, rfl⟩
  rw [toList_mk, HE.out]
  by_cases hl : (Dec.digits N).length = 13
  · rw [if_pos hl]
    have q := bne_iff_ne.2 H4.out
    have HL := Lib.hid hl; clear hl
    go_wp2
    go_ret
    exact ⟨rfl, below_drewE hb1 m⟩
  · rw [if_neg hl]
    have HL := Lib.hid (HF.out hl); clear hl
    go_wp2
    go_ret
    exact ⟨ret_int (by rw [HL.out]), below_drewE hb1 m⟩

set_option maxHeartbeats 400000 in
theorem rParts_any (n : Int) (h0 : 0 ≤ n) (h1 : n ≤ 18446744073709551615) (w : World) :
    Calls Try.prog 93 #[.int .u64 n] w fun e w' => e = .returned (.tuple #[.int .i64 (Num.carr n), .int .i64 (Num.seri n)]) ∧ Below w.heap.size w w' := by
  obtain ⟨N, rfl⟩ := Int.eq_ofNat_of_zero_le h0
  by_cases hc : Num.check N = 0
  · have hb := Num.check_zero hc
    have e1 : Num.carr N = N / 10 / 1000000000 := by unfold Num.carr; rw [if_pos hc]
    have e2 : Num.seri N = N / 10 % 1000000000 := by unfold Num.seri; rw [if_pos hc]
    rw [e1, e2]; clear e1 e2
    have HT := Lib.hid (Num.digits_text (n := N) (by omega) (by omega))
    have hsz := digits_size N (by omega)
    have hs3 : 13 ≤ (⟨(Dec.digits N).toArray⟩ : ByteArray).size := by rw [size_string, Num.digits13 (by omega) (by omega)]; omega
    have hcb : (Num.check N != 0) = false := by rw [hc]; rfl
    have HC := Lib.hid hc; clear hc
    have HB := Lib.hid hb; clear hb
    go_enter Try.func93, Try.ntmps93
    go_wp2_with fail
    refine (rCheck_any _ h0 h1 _).mono ?_
    rintro e w1 ⟨rfl, hb1⟩
    go_wp2_with fail
    refine (rdigits_any _ h0 h1 _).mono ?_
    rintro e w2 ⟨rfl, hb2⟩
    rw [show ((N : Nat) : Int).toNat = N from by omega]
    generalize hs : (⟨(Dec.digits N).toArray⟩ : ByteArray) = s at *
    have HS : Hid (s.data.toList = Dec.text N 13) := Lib.hid (by rw [← hs, toList_mk, HT.out])
    clear hs
    have x1 : (s.extract 0 3).data.toList = Dec.text (N / 10000000000) 3 := by
      have : (s.extract 0 3).data.toList = s.data.toList.take 3 := by simp [ByteArray.data_extract]
      rw [this, HS.out]; exact Dec.text_take N 3 10
    have y1 : s.data.toList.take 3 = Dec.text (N / 10000000000) 3 := by rw [HS.out]; exact Dec.text_take N 3 10
    have y2 : (s.data.toList.drop 3).take 9 = Dec.text (N / 10) 9 := by
      rw [HS.out, Dec.text_drop N 3 10]; exact Dec.text_take N 9 1
    have x2 : (s.extract 3 12).data.toList = Dec.text (N / 10) 9 := by
      have : (s.extract 3 12).data.toList = (s.data.toList.drop 3).take 9 := by simp [ByteArray.data_extract]
      rw [this, y2]
    have v1 : (Dec.val (s.data.toList.take 3) : Int) = N / 10 / 1000000000 := by
      rw [y1, Dec.text_val, Nat.mod_eq_of_lt (by have := HB.out; omega)]; exact div10 N
    have v2 : (Dec.val ((s.data.toList.drop 3).take 9) : Int) = N / 10 % 1000000000 := by rw [y2, Dec.text_val]; omega
    have a1 : (s.extract 0 3).data.toList.all Dec.isDig = true := by rw [x1]; exact Dec.text_all _ _
    have a2 : (s.extract 3 12).data.toList.all Dec.isDig = true := by rw [x2]; exact Dec.text_all _ _
    have A1 := Lib.hid a1; clear a1
    have A2 := Lib.hid a2; clear a2
    have V1 := Lib.hid v1; clear v1
    have V2 := Lib.hid v2; clear v2
    clear x1 x2 y1 y2
    go_wp2_with fail
    go_quiet ((go_at_call 69; exact quiet_left (rworth_any _ (by first | exact A1.out | exact A2.out) (by simp; omega) _)))
    go_wp2
    go_ret2
    refine ⟨ret_pair' ⟨?_, ?_⟩, below_drewE (hb1.trans (hb2.mono hb1.size)) _⟩
    · rw [V1.out]; unfold wrap64; omega
    · rw [V2.out]; unfold wrap64; omega
  · have e1 : Num.carr N = 0 := by unfold Num.carr; rw [if_neg hc]
    have e2 : Num.seri N = 0 := by unfold Num.seri; rw [if_neg hc]
    rw [e1, e2]; clear e1 e2
    have hcb : (Num.check N != 0) = true := bne_iff_ne.2 hc
    clear hc
    go_enter Try.func93, Try.ntmps93
    go_wp2_with fail
    refine (rCheck_any _ h0 h1 _).mono ?_
    rintro e w1 ⟨rfl, hb1⟩
    go_wp2
    go_ret2
    exact ⟨rfl, hb1⟩

end Go.Proofs.Ytadabjkhiaidcaa
end

section
set_option linter.unusedVariables false
set_option linter.unusedSimpArgs false
namespace Go.Proofs.Ytadabjkhiaidcaa
open Go.RowKit
variable {α : Type} {enc : α → List Value} {n : Nat}
theorem row_one {w : World} {g : Nat} {e : TypeId} {x : α} {cs : Array Value} (hh : w.heap[g]? = some (.cells cs e (0, 0))) (hc : cs = (enc x).toArray) (hn : ∀ x, (enc x).length = n) (hp : 0 < n) : LS enc n w (.slice (some ⟨g, 0, none⟩) 1 1) [x] := by
  subst hc
  have h : RowL enc n w g [x] := RowL.of_block hh hn (by simp [hn]) (by rw [show [x].length * n = n from Nat.one_mul n]; simp [encL, ← hn x])
  exact h.slice hn hp (Nat.le_refl _) (by simp [maxLen])
end Go.Proofs.Ytadabjkhiaidcaa
end

section
set_option linter.unusedVariables false
set_option linter.unusedSimpArgs false
namespace Go.Proofs.Ytadabjkhiaidcaa
open Go.RowKit

theorem bdrewN {B : Nat} {a w : World} (h : Below B a w) (n : Nat) : Below B a (w.drewN n) := h.trans ⟨rfl, rfl, rfl, Nat.le_refl _, fun _ _ => rfl⟩
theorem row_drewN {w : World} {g : Nat} {o : Obj} (h : w.heap[g]? = some o) (n : Nat) : (w.drewN n).heap[g]? = some o := h
/-- a slice's parts -/
structure Sl where
  p : Option Addr
  n : Nat
  c : Nat
/-- a ticket in memory -/
structure TS (w : World) (t : Tk) (c x h : Sl) : Prop where
  cs : LS Cpn.cells 6 w (.slice c.p c.n c.c) t.cs
  ts : LS Txx.cells 2 w (.slice x.p x.n x.c) t.ts
  hs : LS Evt.cells 4 w (.slice h.p h.n h.c) t.hs
  wf : t.wf
theorem TS.below {w w' : World} {t : Tk} {c x h : Sl} (s : TS w t c x h) (hb : Below w.heap.size w w') : TS w' t c x h := ⟨s.cs.below hb, s.ts.below hb, s.hs.below hb, s.wf⟩

theorem tday_any (n : Int) (w : World) : Calls Try.prog 100 #[.int .i64 n] w fun e w' => e = .returned (.bool (Tkt.dayB n)) ∧ w = w' := by
  go_enter Try.func100, Try.ntmps100
  go_wp2
  all_goals
    go_ret
    refine ⟨ret_bool ?_, rfl⟩
    unfold Tkt.dayB
    simp; omega

theorem fareMay_any (n : Int) (w : World) : Calls Try.prog 78 #[.int .i64 n] w fun e w' => e = .returned (.bool (decide (-1000000000000 ≤ n) && decide (n ≤ 1000000000000))) ∧ w = w' := by
  go_enter Try.func78, Try.ntmps78
  go_wp2
  all_goals
    go_ret
    refine ⟨ret_bool ?_, rfl⟩
    simp; omega

theorem tsome_any (n : Int) (w : World) : Calls Try.prog 101 #[.int .i64 n] w fun e w' => e = .returned (.bool (Tkt.someB n)) ∧ w = w' := by
  obtain ⟨q, hq⟩ : ∃ q, (decide (-1000000000000 ≤ n) && decide (n ≤ 1000000000000)) = q := ⟨_, rfl⟩
  have HF := Lib.hid (fareMay_any n w)
  rw [hq] at HF
  have HQ := Lib.hid hq
  clear hq
  go_enter Try.func101, Try.ntmps101
  go_wp2_with (first | (go_at_call 78; refine HF.out.mono ?_; rintro e w' ⟨rfl, rfl⟩))
  all_goals
    go_ret
    refine ⟨ret_bool ?_, rfl⟩
    have := HQ.out
    unfold Tkt.someB
    simp_all
    try omega

theorem numbered_any (n : Int) (hn : U64 n) (w : World) : Calls Try.prog 99 #[.int .u64 n] w fun e w' => e = .returned (.bool (Tkt.numB n)) ∧ w = w' := by
  obtain ⟨h0, h1⟩ := hn
  go_enter Try.func99, Try.ntmps99
  go_wp2_with (first | (go_at_call 55; refine (check_any _ (by omega) (by omega) _).mono ?_; rintro e w' ⟨rfl, rfl⟩))
  go_ret
  exact ⟨ret_bool (by first | rfl | (unfold Tkt.numB; simp)), rfl⟩

set_option maxHeartbeats 400000 in
theorem other_any (t : Tk) (c x h : Sl) (n : Int) (hn : U64 n) (w : World) : Calls Try.prog 97 #[.agg #[.int .u64 t.num, .string t.loc, .int .i64 t.iss, .slice c.p c.n c.c, .slice x.p x.n x.c, .int .u64 t.prev, .int .u64 t.org, .int .u64 t.fst, .int .i64 t.vou, .int .i64 t.posts, .slice h.p h.n h.c], .int .u64 n] w fun e w' => e = .returned (.bool (Tkt.othB t.num n)) ∧ Below w.heap.size w w' := by
  go_enter Try.func97, Try.ntmps97
  go_wp2_with (first | (go_at_call 99; refine (numbered_any _ hn _).mono ?_; rintro e w' ⟨rfl, rfl⟩))
  all_goals
    go_ret
    refine ⟨ret_bool ?_, (Below.refl _ _).alloc (Nat.le_refl _) _⟩
    unfold Tkt.othB
    rw [Bool.eq_iff_iff]
    simp_all

set_option maxHeartbeats 400000 in
theorem holder_any (t : Tk) (c x h : Sl) (n : Int) (hn : U64 n) (hnum : U64 t.num) (w : World) : Calls Try.prog 96 #[.agg #[.int .u64 t.num, .string t.loc, .int .i64 t.iss, .slice c.p c.n c.c, .slice x.p x.n x.c, .int .u64 t.prev, .int .u64 t.org, .int .u64 t.fst, .int .i64 t.vou, .int .i64 t.posts, .slice h.p h.n h.c], .int .u64 n] w fun e w' => e = .returned (.bool (Tkt.holdB t.num n)) ∧ Below w.heap.size w w' := by
  obtain ⟨h0, h1⟩ := hn
  obtain ⟨g0, g1⟩ := hnum
  by_cases hle : n ≤ 1048576
  · by_cases hm : Num.mayC (n - 1) = true
    · have hE : Num.mkE (n - 1) 0 = 0 := by unfold Num.mkE; rw [if_pos (by rw [hm]; rfl)]
      have HM := Lib.hid (fun W => make_any (n - 1) 0 W)
      rw [hE] at HM
      have HC := Lib.hid (Num.mayC_iff.1 hm)
      clear hE hm
      go_enter Try.func96, Try.ntmps96
      go_wp2_with (first | (go_at_call 106; refine (HM.out _).mono ?_; rintro e w' ⟨rfl, rfl⟩) | (go_at_call 56; refine (carrier_any _ (by omega) (by omega) _).mono ?_; rintro e w' ⟨rfl, rfl⟩))
      all_goals
        go_ret
        refine ⟨ret_bool ?_, (Below.refl _ _).alloc (Nat.le_refl _) _⟩
        have hc := HC.out
        unfold Tkt.holdB
        rw [Bool.eq_iff_iff]
        simp_all
        try omega
    · have hE : Num.mkE (n - 1) 0 = 2 := by unfold Num.mkE; rw [if_neg (by simp [hm])]
      have HM := Lib.hid (fun W => make_any (n - 1) 0 W)
      rw [hE] at HM
      have HC := Lib.hid (fun h => hm (Num.mayC_iff.2 h))
      clear hE hm
      go_enter Try.func96, Try.ntmps96
      go_wp2_with (first | (go_at_call 106; refine (HM.out _).mono ?_; rintro e w' ⟨rfl, rfl⟩) | (go_at_call 56; refine (carrier_any _ (by omega) (by omega) _).mono ?_; rintro e w' ⟨rfl, rfl⟩))
      all_goals
        go_ret
        refine ⟨ret_bool ?_, (Below.refl _ _).alloc (Nat.le_refl _) _⟩
        have hc := HC.out
        unfold Tkt.holdB
        rw [Bool.eq_iff_iff]
        simp_all
        try omega
  · have hE : ∀ k : Int, 1000 < k → Num.mkE k 0 = 2 := fun k hk => by unfold Num.mkE; rw [if_neg]; unfold Num.mayC; simp; omega
    have HM : Hid (∀ (k : Int) W, 1000 < k → Calls Try.prog 106 #[.int .i64 k, .int .i64 0] W fun e w' => e = .returned (.tuple #[.int .u64 (Num.mkN k 0), .int .i64 2]) ∧ W = w') := Lib.hid (fun k W hk => by have := make_any k 0 W; rwa [hE k hk] at this)
    have HL := Lib.hid hle
    clear hE
    go_enter Try.func96, Try.ntmps96
    go_wp2_with (first | (go_at_call 106; refine (HM.out _ _ (by omega)).mono ?_; rintro e w' ⟨rfl, rfl⟩))
    go_ret
    refine ⟨ret_bool ?_, (Below.refl _ _).alloc (Nat.le_refl _) _⟩
    unfold Tkt.holdB
    rw [Bool.eq_iff_iff]
    simp
    omega
end Go.Proofs.Ytadabjkhiaidcaa
end
