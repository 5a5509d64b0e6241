/- PostingKinds returns true for every kind, five amounts and place, and leaves the memory that was there as it was. -/
import Derived.Test.YthpcillamglmiaaPostC
import Derived.Test.YthpcillamglmiaaLift
import Derived.Test.YthpcillamglmiaaLater
set_option linter.unusedVariables false
set_option linter.unusedSimpArgs false
namespace Go.Proofs.Ythpcillamglmiaa
open Go.ChangeShapes Go.WideShapes Go.ChangeAt Go.RowKit

theorem i64_bd {n : Int} (h : (Lit.int .i64 n).wf = true) : -9223372036854775808 ≤ n ∧ n ≤ 9223372036854775807 := by
  simpa [Lit.wf, IntKind.min, IntKind.max, IntKind.signed, IntKind.bits] using h
theorem u64_bd {n : Int} (h : (Lit.int .u64 n).wf = true) : 0 ≤ n ∧ n ≤ 18446744073709551615 := by
  simpa [Lit.wf, IntKind.min, IntKind.max, IntKind.signed, IntKind.bits] using h
theorem balloc {a w : World} (h : Below a.heap.size a w) (o : Obj) : Below a.heap.size a (w.alloc o) := h.alloc h.size o
theorem below_call {a w w' : World} (h : Below a.heap.size a w) (hx : Below w.heap.size w w') : Below a.heap.size a w' := h.trans (hx.mono h.size)

set_option maxHeartbeats 1000000 in
theorem known14_any (w : World) :
    Calls Try.prog 11 #[] w fun e w' => e = .returned (.bool true) ∧ Below w.heap.size w w' := by
  have k0 : Num.mkN 123 1 = 1230000000014 := by decide
  have k1 : Post.may 1 1230000000014 1 1 [1200, -1000, 0, -200, 0, 0] = true := by decide
  have k2 : Post.may 1 1230000000014 2 4 [-900, 1000, 0, 0, -100, 0] = true := by decide
  have k3 : Post.may 1 1230000000014 2 4 [-900, 1000, -100, 0, 0, 0] = false := by decide
  have k4 : Post.may 1 1230000000014 2 5 [5, 0, 0, 0, 0, -5] = false := by decide
  go_enter Try.func11, Try.ntmps11
  go_wp2_with fail
  refine (rMake_any _ _ _).mono ?_
  rintro e w1 ⟨rfl, hb1⟩
  rw [k0]
  go_wp2_with fail
  refine (may_any _ _ _ _ _ _ _ _ _ _ (by decide) (by decide) _).mono ?_
  rintro e w2 ⟨rfl, hb2⟩
  rw [k1]
  have hc2 := (bcell hb2).1
  go_wp2_with fail
  refine (may_any _ _ _ _ _ _ _ _ _ _ (by decide) (by decide) _).mono ?_
  rintro e w3 ⟨rfl, hb3⟩
  rw [k2]
  replace hb2 := below_call hb2 hb3
  clear hc2 hb3
  have hc2 := (bcell hb2).1
  go_wp2_with fail
  refine (may_any _ _ _ _ _ _ _ _ _ _ (by decide) (by decide) _).mono ?_
  rintro e w4 ⟨rfl, hb4⟩
  rw [k3]
  replace hb2 := below_call hb2 hb4
  clear hc2 hb4
  have hc2 := (bcell hb2).1
  go_wp2_with fail
  refine (may_any _ _ _ _ _ _ _ _ _ _ (by decide) (by decide) _).mono ?_
  rintro e w5 ⟨rfl, hb5⟩
  rw [k4]
  replace hb2 := below_call hb2 hb5
  clear hc2
  go_wp2
  go_ret
  exact ⟨rfl, below_call (balloc (balloc (balloc (balloc hb1 _) _) _) _) hb2⟩
end Go.Proofs.Ythpcillamglmiaa
namespace Go.Proofs.Ythpcillamglmiaa.postingKinds
open Go.ChangeShapes Go.WideShapes Go.ChangeAt Go.RowKit

theorem may_cols {k n : Int} (k1 : 1 ≤ k) (k5 : k ≤ 5) (hn : Num.check n = 0) (am : List Int) : Post.may 0 n 1 k am = Post.cols k am := by
  unfold Post.may; simp [k1, k5, hn]
theorem may_far {d t s k : Int} (h : k < 1 ∨ 5 < k) (am : List Int) : Post.may d t s k am = false := by
  unfold Post.may
  by_cases k1 : 1 ≤ k
  · have : ¬ k ≤ 5 := by omega
    simp [this]
  · simp [k1]
theorem may_plus {d t s k b0 b1 b2 b3 b4 b5 : Int} (h : Post.sum [b0, b1, b2, b3, b4, b5] = 0) : Post.may d t s k [b0, b1 + 1, b2, b3, b4, b5] = false := by
  have h2 : Post.sum [b0, b1 + 1, b2, b3, b4, b5] ≠ 0 := by simp [Post.sum] at *; omega
  unfold Post.may Post.cols
  simp [h2]
theorem sum_set (cs : List Int) (j : Nat) (z : Int) (hj : j < cs.length) (h0 : cs.getD j 0 = 0) : Post.sum (cs.set j z) = Post.sum cs + z := by
  induction cs generalizing j with
  | nil => simp at hj
  | cons c cs ih =>
    cases j with
    | zero => simp at h0; subst h0; simp [Post.sum]; omega
    | succ j =>
      have := ih j (by simpa using hj) (by simpa using h0)
      show c + Post.sum (cs.set j z) = c + Post.sum cs + z
      omega
theorem amRow_set (cs : List Int) (j : Nat) (v : Int) : (Post.amRow cs).setIfInBounds j (.int .i64 v) = Post.amRow (cs.set j v) := by
  unfold Post.amRow; simp [List.map_set]
theorem at_place (p : Int) : ∃ q : Nat, (wrap64 (p.tmod 6 + 6)).tmod 6 = (q : Int) ∧ q < 6 := by
  have h1 : -6 < p.tmod 6 ∧ p.tmod 6 < 6 := by
    have := Int.tmod_lt_of_pos p (show (0 : Int) < 6 by decide)
    have h2 := Int.lt_tmod_of_pos p (show (0 : Int) < 6 by decide)
    omega
  have h2 : wrap64 (p.tmod 6 + 6) = p.tmod 6 + 6 := IntWalk.wrap64_in _ (by omega)
  rw [h2]
  have h3 : (p.tmod 6 + 6).tmod 6 = (p.tmod 6 + 6) % 6 := Int.tmod_eq_emod_of_nonneg (by omega)
  rw [h3]
  exact ⟨((p.tmod 6 + 6) % 6).toNat, by omega, by omega⟩

theorem zeros_getD (i : Nat) : ([0, 0, 0, 0, 0, 0] : List Int).getD i 0 = 0 := by rcases i with _ | _ | _ | _ | _ | _ | i <;> rfl
/-- what the loop knows behind j rounds -/
def Rel (q j kk : Nat) (x : Int) (cs : List Int) : Prop :=
  cs.length = 6 ∧ kk = (if j ≤ q then j else j - 1) ∧ x = Post.sum cs ∧ (∀ i, cs.getD i 0 = 0 ∨ (i < j ∧ i ≠ q)) ∧ (∀ i, -2251799813685248 ≤ cs.getD i 0 ∧ cs.getD i 0 ≤ 2251799813685248)
theorem sum_bound (cs : List Int) (h : ∀ i, -2251799813685248 ≤ cs.getD i 0 ∧ cs.getD i 0 ≤ 2251799813685248) : -(cs.length * 2251799813685248 : Int) ≤ Post.sum cs ∧ Post.sum cs ≤ cs.length * 2251799813685248 := by
  induction cs with
  | nil => simp [Post.sum]
  | cons c cs ih =>
    have h0 := h 0
    have h1 := ih (fun i => by simpa using h (i + 1))
    simp at h0
    simp only [List.length_cons, Post.sum]
    omega
theorem getD_set (cs : List Int) (j i : Nat) (z : Int) : (cs.set j z).getD i 0 = if i = j ∧ j < cs.length then z else cs.getD i 0 := by
  simp only [List.getD_eq_getElem?_getD, List.getElem?_set]
  by_cases h : j = i
  · subst h
    by_cases h2 : j < cs.length
    · simp [h2]
    · simp [h2]
  · rw [if_neg h, if_neg (fun h' => h h'.1.symm)]
theorem rel_step {q j kk : Nat} {x z : Int} {cs : List Int} (h : Rel q j kk x cs) (hj : j < 6) (hne : j ≠ q) (hz1 : -2251799813685248 ≤ z) (hz2 : z ≤ 2251799813685248) : Rel q (j + 1) (kk + 1) (x + z) (cs.set j z) := by
  obtain ⟨hl, hk, hx, h0, hb⟩ := h
  have hcj : cs.getD j 0 = 0 := by rcases h0 j with h | h; exact h; omega
  refine ⟨by rw [List.length_set]; exact hl, ?_, ?_, ?_, ?_⟩
  · subst hk
    by_cases h : j ≤ q
    · rw [if_pos h, if_pos (by omega)]
    · rw [if_neg h, if_neg (by omega)]; omega
  · rw [sum_set cs j z (by omega) hcj, hx]
  · intro i
    rw [getD_set]
    by_cases h : i = j ∧ j < cs.length
    · exact .inr ⟨by omega, by omega⟩
    · rw [if_neg h]
      rcases h0 i with h' | h'
      · exact .inl h'
      · exact .inr ⟨by omega, h'.2⟩
  · intro i
    rw [getD_set]
    by_cases h : i = j ∧ j < cs.length
    · rw [if_pos h]; exact ⟨hz1, hz2⟩
    · rw [if_neg h]; exact hb i
theorem rel_skip {q j kk : Nat} {x : Int} {cs : List Int} (h : Rel q j kk x cs) (he : j = q) : Rel q (j + 1) kk x cs := by
  obtain ⟨hl, hk, hx, h0, hb⟩ := h
  refine ⟨hl, ?_, hx, ?_, hb⟩
  · subst hk; rw [if_pos (by omega), if_neg (by omega)]; omega
  · intro i
    rcases h0 i with h' | h'
    · exact .inl h'
    · exact .inr ⟨by omega, h'.2⟩

set_option maxHeartbeats 2000000 in
theorem walk (k p z0 z1 z2 z3 z4 : Int) (w : World) :
    Calls Try.prog 3 #[.int .i64 k, .agg #[.int .i64 z0, .int .i64 z1, .int .i64 z2, .int .i64 z3, .int .i64 z4], .int .i64 p] w fun e w' => e = .returned (.bool true) ∧ Below w.heap.size w w' := by
  have n0 : Num.mkN 100 0 = 1000000000005 := by decide
  obtain ⟨q, hq, hq6⟩ := at_place p
  go_enter Try.func3, Try.ntmps3
  go_wp2_with fail
  refine (rMake_any _ _ _).mono ?_
  rintro e w1 ⟨rfl, hb1⟩
  rw [n0]
  have hz1 : w.heap.size < w1.heap.size := by have := hb1.size; simp at this; omega
  have HC1 := Lib.hid (bcell hb1).1
  have HB1 : Hid (Below w.heap.size w w1) := Lib.hid (((Below.refl w.heap.size w).alloc (Nat.le_refl _) _).trans (hb1.mono (by simp)))
  go_wp2_with fail
  clear hq n0
  go_loopw [11, 12, 13] (fun sm kv iv wr => ∃ (j kk : Nat) (x : Int) (cs : List Int), j ≤ 6 ∧ iv = .int .i64 j ∧ kv = .int .i64 kk ∧ sm = .int .i64 x ∧ wr = w1.alloc (.cells (Post.amRow cs) 26) ∧ Rel q j kk x cs)
    (fun _ _ iv _ => 6 - (intOf iv).toNat)
  case atStart => exact ⟨0, 0, 0, [0, 0, 0, 0, 0, 0], by omega, rfl, rfl, rfl, rfl, rfl, rfl, rfl, fun i => .inl (zeros_getD i), fun i => by rw [zeros_getD]; omega⟩
  case round =>
    obtain ⟨j, kk, x, cs, hj, rfl, rfl, rfl, rfl, hrel⟩ := hrel
    have HREL := Lib.hid hrel
    obtain ⟨hl, hkk, hx, h0, hb⟩ := hrel
    have hsb := sum_bound cs hb
    rw [hl, ← hx] at hsb
    obtain ⟨hs1, hs2⟩ := hsb
    have HX := Lib.hid hx; clear hx
    have HL := Lib.hid hl; clear hl
    clear h0 hb
    by_cases hlt : j < 6
    · by_cases he : j = q
      · have heb : ((j : Int) == (q : Int)) = true := by simp; omega
        have HE := Lib.hid he; clear he
        have HK := Lib.hid hkk; clear hkk
        go_wp2
        go_roundw
        case rel => exact ⟨j + 1, kk, x, cs, by omega, by go_num, rfl, rfl, rfl, rel_skip HREL.out HE.out⟩
        case measure => simp [intOf]; omega
      · have heb : ((j : Int) == (q : Int)) = false := by simp; omega
        have hkk5 : kk < 5 := by rw [hkk]; split <;> omega
        have hkk6 : kk ≤ j := by rw [hkk]; split <;> omega
        have HE := Lib.hid he; clear he
        have HK := Lib.hid hkk; clear hkk
        obtain ⟨z, hz⟩ : ∃ z, ([z0, z1, z2, z3, z4] : List Int).getD kk 0 = z := ⟨_, rfl⟩
        have hcz : w1.cell? ⟨w.heap.size, kk, none⟩ = some (.int .i64 z) := by
          rw [HC1.out w.heap.size kk (by simp), World.cell?_alloc_mark w _ _ (0, 0) kk, ← hz]
          rcases (by omega : kk = 0 ∨ kk = 1 ∨ kk = 2 ∨ kk = 3 ∨ kk = 4) with h | h | h | h | h <;> rw [h] <;> rfl
        have hck := Post.amRow_at (am := cs) (j := j) (by have := HL.out; omega)
        clear hz
        have HBA : Hid (Below w.heap.size w (w1.alloc (.cells (Post.amRow cs) 26))) := Lib.hid (HB1.out.alloc (by omega) _)
        by_cases hzb : z < -2251799813685248 ∨ 2251799813685248 < z
        · rcases hzb with hzb | hzb
          all_goals
            go_wp2_with fail
            refine (known14_any _).mono ?_
            rintro e w2 ⟨rfl, hb2⟩
            go_wp2
            go_ret
            exact ⟨rfl, below_call HBA.out hb2⟩
        · have hzb1 : -2251799813685248 ≤ z := by omega
          have hzb2 : z ≤ 2251799813685248 := by omega
          clear hzb
          go_wp2
          go_roundw
          case rel => exact ⟨j + 1, kk + 1, x + z, cs.set j z, by omega, by go_num, by go_num, rfl, by rw [amRow_set], rel_step HREL.out hlt HE.out hzb1 hzb2⟩
          case measure => simp [intOf]; omega
    · obtain rfl : j = 6 := by omega
      clear hkk
      have hcq : cs.getD q 0 = 0 := by rcases HREL.out.2.2.2.1 q with h | h; exact h; exact absurd rfl h.2
      have hl6 : (cs.set q (-x)).length = 6 := by rw [List.length_set]; exact HL.out
      have hs0 : Post.sum (cs.set q (-x)) = 0 := by rw [sum_set cs q (-x) (by have := HL.out; omega) hcq, HX.out]; omega
      have hbd : ∀ i, i < 6 → -13510798882111488 ≤ (cs.set q (-x)).getD i 0 ∧ (cs.set q (-x)).getD i 0 ≤ 13510798882111488 := by
        intro i hi
        rw [getD_set]
        have := HREL.out.2.2.2.2 i
        split <;> omega
      have hck := Post.amRow_at (am := cs) (j := q) (by have := HL.out; omega)
      have hsr := amRow_set cs q (-x)
      generalize cs.set q (-x) = ds at *
      obtain ⟨b0, b1, b2, b3, b4, b5, rfl⟩ : ∃ b0 b1 b2 b3 b4 b5, ds = [b0, b1, b2, b3, b4, b5] := by
        match ds, hl6 with
        | [b0, b1, b2, b3, b4, b5], _ => exact ⟨b0, b1, b2, b3, b4, b5, rfl⟩
      have hlit : Post.amRow [b0, b1, b2, b3, b4, b5] = #[.int .i64 b0, .int .i64 b1, .int .i64 b2, .int .i64 b3, .int .i64 b4, .int .i64 b5] := rfl
      have hb1' : -13510798882111488 ≤ b1 ∧ b1 ≤ 13510798882111488 := hbd 1 (by omega)
      obtain ⟨hb1l, hb1u⟩ := hb1'
      rw [hlit] at hsr
      have HS0 := Lib.hid hs0; clear hs0 hlit hcq hl6 hbd
      have HK1 := Lib.hid (may_cols (k := k) (n := 1000000000005))
      have HMP := Lib.hid (may_plus (d := 0) (t := 1000000000005) (s := 1) (k := k) HS0.out)
      by_cases hk : 1 ≤ k ∧ k ≤ 5
      · obtain ⟨k1, k5⟩ := hk
        have hcols : Post.may 0 1000000000005 1 k [b0, b1, b2, b3, b4, b5] = Post.cols k [b0, b1, b2, b3, b4, b5] := HK1.out k1 k5 (by decide) _
        obtain ⟨cc, hcc⟩ : ∃ cc, Post.cols k [b0, b1, b2, b3, b4, b5] = cc := ⟨_, rfl⟩
        rw [hcc] at hcols
        have HA := Lib.hid hcols; clear hcols
        have HB := Lib.hid hcc; clear hcc
        go_wp2_with fail
        have hL := @Later.cell
        refine wp_region_later (by kernel_rfl) (by kernel_rfl) ?_
        have HM1 := Lib.hid (fun W => HA.out ▸ may_any 0 1000000000005 1 k b0 b1 b2 b3 b4 b5 (by decide) (by decide) W)
        have HM2 := Lib.hid (fun W => HMP.out ▸ may_any 0 1000000000005 1 k b0 (b1 + 1) b2 b3 b4 b5 (by decide) (by decide) W)
        have HM3 := Lib.hid (fun (u : Later (((w1.alloc (.cells #[.int .i64 b0, .int .i64 b1, .int .i64 b2, .int .i64 b3, .int .i64 b4, .int .i64 b5] 26)).alloc (.cells #[.int .i64 0, .int .u64 1000000000005, .int .i64 1, .int .i64 k, .int .i64 b0, .int .i64 b1, .int .i64 b2, .int .i64 b3, .int .i64 b4, .int .i64 b5] 30)).alloc (.cells #[.int .i64 0, .int .u64 1000000000005, .int .i64 1, .int .i64 k, .int .i64 b0, .int .i64 (b1 + 1), .int .i64 b2, .int .i64 b3, .int .i64 b4, .int .i64 b5] 30))) =>
          HB.out ▸ rColumns_any k [b0, b1, b2, b3, b4, b5] 6 w1.heap.size 0 k1 k5 rfl (by omega) u.val (by have := u.prop.size; simp at this; omega) (fun i hi => by
            rw [u.cell w1.heap.size (0 + i) (by simp; omega)]
            rcases (by omega : i = 0 ∨ i = 1 ∨ i = 2 ∨ i = 3 ∨ i = 4 ∨ i = 5) with rfl | rfl | rfl | rfl | rfl | rfl <;> (go_simp <;> rfl)))
        repeat (go_big_quiet_step (first | (go_at_call 13; exact later_call (HM3.out _)) | (go_at_call 11; exact later_call (known14_any _)) | (go_at_call 12; first | with_reducible exact later_call (HM1.out _) | with_reducible exact later_call (HM2.out _))))
        refine wpQuiet_nil ?_
        rintro w2 ⟨u, rfl⟩
        have HU := Lib.hid (below_call (balloc (balloc (balloc HB1.out _) _) _) u.prop)
        go_wp2
        go_ret
        exact ⟨rfl, HU.out⟩
      · have HF := Lib.hid (may_far (d := 0) (t := 1000000000005) (s := 1) (k := k) (by omega) [b0, b1, b2, b3, b4, b5])
        rcases (by omega : k < 1 ∨ 5 < k) with hk | hk
        all_goals
          go_wp2_with fail
          refine (may_any _ _ _ _ _ _ _ _ _ _ (by decide) (by decide) _).mono ?_
          rintro e w2 ⟨rfl, hb2⟩
          rw [HF.out]
          go_wp2_with fail
          refine (known14_any _).mono ?_
          rintro e w3 ⟨rfl, hb3⟩
          go_wp2
          go_ret
          exact ⟨rfl, below_call (below_call (balloc (balloc HB1.out _) _) hb2) hb3⟩

theorem array5 {cs : Array Value} (h : cs.size = 5) : ∃ a b c d e, cs = #[a, b, c, d, e] := by
  match cs, h with
  | ⟨[a, b, c, d, e]⟩, _ => exact ⟨a, b, c, d, e, rfl⟩
theorem five_ints {P : Program} {H : Type} {enc : TypeId × Value → H} {w : World} {base : Nat} {t e : TypeId} {r : Reach} {b0 : Nat} {v : Value} {d : DataW H} {ps : List MemPlace} (hs : P.underlying t = some (.array 5 e)) (he : P.underlying e = some (.int .i64)) (hC : P.cellsOf t = 5) (hE : P.cellsOf e = 1)
    (hv : Value.okWide P w r b0 t v) (h : DataW.Trod enc P w base (fun _ => true) true t v d ps) : ∃ z0 z1 z2 z3 z4, v = .agg #[.int .i64 z0, .int .i64 z1, .int .i64 z2, .int .i64 z3, .int .i64 z4] := by
  simp only [Value.okWide, hs] at hv
  obtain ⟨cs, rfl, hsz, _⟩ := hv
  obtain ⟨fuel, hf⟩ := h
  obtain ⟨xs, m, rfl, hx, hl, hxl, hi⟩ := DataW.trod_array hs hf
  obtain ⟨c0, c1, c2, c3, c4, rfl⟩ := array5 (hsz.trans hC)
  rw [hE] at hi
  have g : ∀ i, i < 5 → ∃ y, xs[i]? = some y := fun i h => ⟨_, List.getElem?_eq_getElem (by omega)⟩
  obtain ⟨y0, e0⟩ := g 0 (by omega)
  obtain ⟨y1, e1⟩ := g 1 (by omega)
  obtain ⟨y2, e2⟩ := g 2 (by omega)
  obtain ⟨y3, e3⟩ := g 3 (by omega)
  obtain ⟨y4, e4⟩ := g 4 (by omega)
  obtain ⟨z0, f0, _⟩ := DataW.trod_int he ((hi 0 (by omega)).trans e0)
  obtain ⟨z1, f1, _⟩ := DataW.trod_int he ((hi 1 (by omega)).trans e1)
  obtain ⟨z2, f2, _⟩ := DataW.trod_int he ((hi 2 (by omega)).trans e2)
  obtain ⟨z3, f3, _⟩ := DataW.trod_int he ((hi 3 (by omega)).trans e3)
  obtain ⟨z4, f4, _⟩ := DataW.trod_int he ((hi 4 (by omega)).trans e4)
  simp [Value.cells] at f0 f1 f2 f3 f4
  subst f0 f1 f2 f3 f4
  exact ⟨z0, z1, z2, z3, z4, rfl⟩
theorem fiveCells : Try.prog.cellsOf 22 = 5 := by kernel_rfl
theorem i64Cells : Try.prog.cellsOf 2 = 1 := by kernel_rfl
set_option maxRecDepth 10000 in
theorem open_five {H : Type} {enc : TypeId × Value → H} {W : World} {base : Nat} {v : Value} {d : DataW H} {ps : List MemPlace}
    (hv : Value.okWide Try.prog W .any base 22 v) (h : DataW.Trod enc Try.prog W 0 (fun _ => true) true 22 v d ps) : ∃ z0 z1 z2 z3 z4, v = .agg #[.int .i64 z0, .int .i64 z1, .int .i64 z2, .int .i64 z3, .int .i64 z4] :=
  five_ints Try.underlying22 Try.underlying2 fiveCells i64Cells hv h

set_option maxRecDepth 100000 in
theorem lifted (os : Os) (started : os.Started) (H : Type) (enc : TypeId × Value → H) :
    ReturnsInHanded {} Try.checked os 3 .any (Rows.postingKindsSpec.pre6 enc Try.prog Try.f3 Rows.postingKindsRow.domain false) (Rows.postingKindsSpec.post enc Try.prog Try.f3 false true false false) := by
  refine returnsInHanded_of_change (C := Try.checked) own started (by kernel_rfl) Try.func3
    (ChangeSpec.witness6 (enc := enc) (C := Try.checked) false ⟨#[], #[.int .i64 0, .agg #[.int .i64 0, .int .i64 0, .int .i64 0, .int .i64 0, .int .i64 0], .int .i64 0], []⟩ 8 (by kernel_rfl) (by kernel_rfl) (by kernel_rfl) (by kernel_rfl)) ?_
  intro W base args ds gs before hval0 hW hcnd _
  have hval : ∀ (j : Nat) t v, Try.f3.params[j]? = some t → args[j]? = some v → Value.okWide Try.prog W .any base t v := hval0
  have hW' := hW
  obtain ⟨p, q, hA0, hV, rfl, hfz, hnd⟩ := hW
  have hA : DataW.TrodAll enc Try.prog W 0 (fun _ => true) true Try.f3.params.toList args.toList ds p := hA0
  rw [Try.params3] at hA hval
  obtain ⟨v0, vs0, d0, ds0, p0, q0, hargs, rfl, rfl, h0, r0⟩ := trodAll_cons hA
  obtain ⟨v1, vs1, d1, ds1, p1, q1, rfl, rfl, rfl, h1, r1⟩ := trodAll_cons r0
  obtain ⟨v2, vs2, d2, ds2, p2, q2, rfl, rfl, rfl, h2, r2⟩ := trodAll_cons r1
  obtain ⟨rfl, rfl, rfl⟩ := trodAll_nil r2
  obtain rfl : args = #[v0, v1, v2] := by cases args; simp_all
  obtain ⟨k, rfl, rfl, rfl, wk⟩ := open_int Try.underlying3 (hval 0 3 v0 rfl rfl) h0
  obtain ⟨z0, z1, z2, z3, z4, rfl⟩ := open_five (hval 1 _ v1 rfl rfl) h1
  obtain ⟨p, rfl, rfl, rfl, wp⟩ := open_int Try.underlying3 (hval 2 3 v2 rfl rfl) h2
  clear hA0 hval0
  refine (walk k p z0 z1 z2 z3 z4 W).mono fun e W' ⟨he, hg⟩ => ?_
  subst he
  exact ⟨_, rfl, post_law laidOut rfl hW' ⟨rfl, rfl, rfl⟩ (by kernel_rfl) hg Try.underlying4 rfl⟩

theorem proved : Rows.PostingKindsSaid :=
  OpenClaim.holds_of_wide 3 Try.f3 rfl rfl rfl rfl rfl rfl rfl ⟨rfl, rfl, rfl, rfl, rfl⟩ rfl rfl rfl rfl rfl (by kernel_rfl) Try.func3 (by kernel_rfl)
    (of_decide_eq_true (by kernel_rfl)) (by unfold Func.isWrapper; first | (rw [if_pos (by decide +kernel)]; kernel_rfl) | (rw [if_neg (by decide +kernel)]; exact ⟨rfl, rfl⟩))
    (fun os started H enc _ => lifted os started H enc)
#print axioms proved
end Go.Proofs.Ythpcillamglmiaa.postingKinds
