/- Contracts: the ticket package's small functions: day, some, numbered, other, holder, status. -/
import Derived.Test.YtmadkfahkbdibaaTkP
import Derived.Test.YtmadkfahkbdibaaNumA
import Derived.Test.YtmadkfahkbdibaaNumE
import Derived.Test.YtmadkfahkbdibaaRecB
import Derived.Deep.QuietTactic
import Derived.BigQuiet
set_option linter.unusedVariables false
set_option linter.unusedSimpArgs false
namespace Go.Proofs.Ytmadkfahkbdibaa
open Go.RowKit

theorem bdrewN {B : Nat} {a w : World} (h : Below B a w) (n : Nat) : Below B a (w.drewN n) := h.trans ⟨rfl, rfl, rfl, Nat.le_refl _, fun _ _ => rfl⟩
theorem row_drewN {w : World} {g : Nat} {o : Obj} (h : w.heap[g]? = some o) (n : Nat) : (w.drewN n).heap[g]? = some o := h
/-- a slice's parts -/
structure Sl where
  p : Option Addr
  n : Nat
  c : Nat
/-- a ticket in memory -/
structure TS (w : World) (t : Tk) (c x h : Sl) : Prop where
  cs : LS Cpn.cells 6 w (.slice c.p c.n c.c) t.cs
  ts : LS Txx.cells 2 w (.slice x.p x.n x.c) t.ts
  hs : LS Evt.cells 4 w (.slice h.p h.n h.c) t.hs
  wf : t.wf
theorem TS.below {w w' : World} {t : Tk} {c x h : Sl} (s : TS w t c x h) (hb : Below w.heap.size w w') : TS w' t c x h := ⟨s.cs.below hb, s.ts.below hb, s.hs.below hb, s.wf⟩

theorem tday_any (n : Int) (w : World) : Calls Try.prog 119 #[.int .i64 n] w fun e w' => e = .returned (.bool (Tkt.dayB n)) ∧ w = w' := by
  go_enter Try.func119, Try.ntmps119
  go_wp2
  all_goals
    go_ret
    refine ⟨ret_bool ?_, rfl⟩
    unfold Tkt.dayB
    simp; omega

theorem fareMay_any (n : Int) (w : World) : Calls Try.prog 150 #[.int .i64 n] w fun e w' => e = .returned (.bool (decide (-1000000000000 ≤ n) && decide (n ≤ 1000000000000))) ∧ w = w' := by
  go_enter Try.func150, Try.ntmps150
  go_wp2
  all_goals
    go_ret
    refine ⟨ret_bool ?_, rfl⟩
    simp; omega

theorem tsome_any (n : Int) (w : World) : Calls Try.prog 120 #[.int .i64 n] w fun e w' => e = .returned (.bool (Tkt.someB n)) ∧ w = w' := by
  obtain ⟨q, hq⟩ : ∃ q, (decide (-1000000000000 ≤ n) && decide (n ≤ 1000000000000)) = q := ⟨_, rfl⟩
  have HF := Lib.hid (fareMay_any n w)
  rw [hq] at HF
  have HQ := Lib.hid hq
  clear hq
  go_enter Try.func120, Try.ntmps120
  go_wp2_with (first | (go_at_call 150; refine HF.out.mono ?_; rintro e w' ⟨rfl, rfl⟩))
  all_goals
    go_ret
    refine ⟨ret_bool ?_, rfl⟩
    have := HQ.out
    unfold Tkt.someB
    simp_all
    try omega

theorem numbered_any (n : Int) (hn : U64 n) (w : World) : Calls Try.prog 112 #[.int .u64 n] w fun e w' => e = .returned (.bool (Tkt.numB n)) ∧ w = w' := by
  obtain ⟨h0, h1⟩ := hn
  go_enter Try.func112, Try.ntmps112
  go_wp2_with (first | (go_at_call 105; refine (check_any _ (by omega) (by omega) _).mono ?_; rintro e w' ⟨rfl, rfl⟩))
  go_ret
  exact ⟨ret_bool (by first | rfl | (unfold Tkt.numB; simp)), rfl⟩

set_option maxHeartbeats 400000 in
theorem other_any (t : Tk) (c x h : Sl) (n : Int) (hn : U64 n) (w : World) : Calls Try.prog 50 #[.agg #[.int .u64 t.num, .string t.loc, .int .i64 t.iss, .slice c.p c.n c.c, .slice x.p x.n x.c, .int .u64 t.prev, .int .u64 t.org, .int .u64 t.fst, .int .i64 t.vou, .int .i64 t.posts, .slice h.p h.n h.c], .int .u64 n] w fun e w' => e = .returned (.bool (Tkt.othB t.num n)) ∧ Below w.heap.size w w' := by
  go_enter Try.func50, Try.ntmps50
  go_wp2_with (first | (go_at_call 112; refine (numbered_any _ hn _).mono ?_; rintro e w' ⟨rfl, rfl⟩))
  all_goals
    go_ret
    refine ⟨ret_bool ?_, (Below.refl _ _).alloc (Nat.le_refl _) _⟩
    unfold Tkt.othB
    rw [Bool.eq_iff_iff]
    simp_all

set_option maxHeartbeats 400000 in
theorem holder_any (t : Tk) (c x h : Sl) (n : Int) (hn : U64 n) (hnum : U64 t.num) (w : World) : Calls Try.prog 49 #[.agg #[.int .u64 t.num, .string t.loc, .int .i64 t.iss, .slice c.p c.n c.c, .slice x.p x.n x.c, .int .u64 t.prev, .int .u64 t.org, .int .u64 t.fst, .int .i64 t.vou, .int .i64 t.posts, .slice h.p h.n h.c], .int .u64 n] w fun e w' => e = .returned (.bool (Tkt.holdB t.num n)) ∧ Below w.heap.size w w' := by
  obtain ⟨h0, h1⟩ := hn
  obtain ⟨g0, g1⟩ := hnum
  by_cases hle : n ≤ 1048576
  · by_cases hm : Num.mayC (n - 1) = true
    · have hE : Num.mkE (n - 1) 0 = 0 := by unfold Num.mkE; rw [if_pos (by rw [hm]; rfl)]
      have HM := Lib.hid (fun W => make_any (n - 1) 0 W)
      rw [hE] at HM
      have HC := Lib.hid (Num.mayC_iff.1 hm)
      clear hE hm
      go_enter Try.func49, Try.ntmps49
      go_wp2_with (first | (go_at_call 111; refine (HM.out _).mono ?_; rintro e w' ⟨rfl, rfl⟩) | (go_at_call 106; refine (carrier_any _ (by omega) (by omega) _).mono ?_; rintro e w' ⟨rfl, rfl⟩))
      all_goals
        go_ret
        refine ⟨ret_bool ?_, (Below.refl _ _).alloc (Nat.le_refl _) _⟩
        have hc := HC.out
        unfold Tkt.holdB
        rw [Bool.eq_iff_iff]
        simp_all
        try omega
    · have hE : Num.mkE (n - 1) 0 = 2 := by unfold Num.mkE; rw [if_neg (by simp [hm])]
      have HM := Lib.hid (fun W => make_any (n - 1) 0 W)
      rw [hE] at HM
      have HC := Lib.hid (fun h => hm (Num.mayC_iff.2 h))
      clear hE hm
      go_enter Try.func49, Try.ntmps49
      go_wp2_with (first | (go_at_call 111; refine (HM.out _).mono ?_; rintro e w' ⟨rfl, rfl⟩) | (go_at_call 106; refine (carrier_any _ (by omega) (by omega) _).mono ?_; rintro e w' ⟨rfl, rfl⟩))
      all_goals
        go_ret
        refine ⟨ret_bool ?_, (Below.refl _ _).alloc (Nat.le_refl _) _⟩
        have hc := HC.out
        unfold Tkt.holdB
        rw [Bool.eq_iff_iff]
        simp_all
        try omega
  · have hE : ∀ k : Int, 1000 < k → Num.mkE k 0 = 2 := fun k hk => by unfold Num.mkE; rw [if_neg]; unfold Num.mayC; simp; omega
    have HM : Hid (∀ (k : Int) W, 1000 < k → Calls Try.prog 111 #[.int .i64 k, .int .i64 0] W fun e w' => e = .returned (.tuple #[.int .u64 (Num.mkN k 0), .int .i64 2]) ∧ W = w') := Lib.hid (fun k W hk => by have := make_any k 0 W; rwa [hE k hk] at this)
    have HL := Lib.hid hle
    clear hE
    go_enter Try.func49, Try.ntmps49
    go_wp2_with (first | (go_at_call 111; refine (HM.out _ _ (by omega)).mono ?_; rintro e w' ⟨rfl, rfl⟩))
    go_ret
    refine ⟨ret_bool ?_, (Below.refl _ _).alloc (Nat.le_refl _) _⟩
    unfold Tkt.holdB
    rw [Bool.eq_iff_iff]
    simp
    omega
end Go.Proofs.Ytmadkfahkbdibaa
