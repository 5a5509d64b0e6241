/- Contracts: cmp.Compare, cmp.Or, posting.order, Less, Same; the reference's Ahead. Contracts: posting.Less, Same; the reference's Ahead. Plain facts for PostingReads: a posting's 63 bytes, and what is read of any bytes. -/
import Derived.Test.YtellhmbebimenaaDoorLr34
import Derived.Deep.RegionHeld3
import Derived.Deep.QuietTactic
import Derived.BigQuiet
import Derived.Test.YtellhmbebimenaaDoorLr32
import Derived.Test.YtellhmbebimenaaDoorLr29

section
set_option linter.unusedVariables false
set_option linter.unusedSimpArgs false
namespace Go.Proofs.YtellhmbebimenaaDoor
open Go.RowKit

theorem isNaNU_any (x : Int) (w : World) : Calls Tryd.prog 183 #[.int .u64 x] w fun e w' => e = .returned (.bool false) ∧ w = w' := by
  go_enter Tryd.func183, Tryd.ntmps183
  go_wp2
  go_ret
  exact ⟨ret_bool (by simp), rfl⟩
theorem isNaNI_any (x : Int) (w : World) : Calls Tryd.prog 184 #[.int .i64 x] w fun e w' => e = .returned (.bool false) ∧ w = w' := by
  go_enter Tryd.func184, Tryd.ntmps184
  go_wp2
  go_ret
  exact ⟨ret_bool (by simp), rfl⟩
def cmpI (x y : Int) : Int := if x < y then -1 else if y < x then 1 else 0
set_option maxHeartbeats 400000 in
theorem cmpU_any (x y : Int) (w : World) : Calls Tryd.prog 176 #[.int .u64 x, .int .u64 y] w fun e w' => e = .returned (.int .i64 (cmpI x y)) ∧ w = w' := by
  have key : ∀ r, cmpI x y = r → Calls Tryd.prog 176 #[.int .u64 x, .int .u64 y] w fun e w' => e = .returned (.int .i64 r) ∧ w = w' := by
    intro r hr
    unfold cmpI at hr
    rcases (by omega : x < y ∨ (¬ x < y ∧ y < x) ∨ (¬ x < y ∧ ¬ y < x)) with h | ⟨h, h'⟩ | ⟨h, h'⟩
    · rw [if_pos h] at hr
      subst hr
      go_enter Tryd.func176, Tryd.ntmps176
      go_wp2_with fail
      refine (isNaNU_any _ _).mono ?_
      rintro e w1 ⟨rfl, rfl⟩
      go_wp2_with fail
      refine (isNaNU_any _ _).mono ?_
      rintro e w1 ⟨rfl, rfl⟩
      go_wp2
      go_ret
      exact ⟨rfl, rfl⟩
    · rw [if_neg h, if_pos h'] at hr
      subst hr
      go_enter Tryd.func176, Tryd.ntmps176
      go_wp2_with fail
      refine (isNaNU_any _ _).mono ?_
      rintro e w1 ⟨rfl, rfl⟩
      go_wp2_with fail
      refine (isNaNU_any _ _).mono ?_
      rintro e w1 ⟨rfl, rfl⟩
      go_wp2
      go_ret
      exact ⟨rfl, rfl⟩
    · rw [if_neg h, if_neg h'] at hr
      subst hr
      go_enter Tryd.func176, Tryd.ntmps176
      go_wp2_with fail
      refine (isNaNU_any _ _).mono ?_
      rintro e w1 ⟨rfl, rfl⟩
      go_wp2_with fail
      refine (isNaNU_any _ _).mono ?_
      rintro e w1 ⟨rfl, rfl⟩
      go_wp2
      go_ret
      exact ⟨rfl, rfl⟩
  exact key _ rfl
set_option maxHeartbeats 400000 in
theorem cmpI_any (x y : Int) (w : World) : Calls Tryd.prog 177 #[.int .i64 x, .int .i64 y] w fun e w' => e = .returned (.int .i64 (cmpI x y)) ∧ w = w' := by
  have key : ∀ r, cmpI x y = r → Calls Tryd.prog 177 #[.int .i64 x, .int .i64 y] w fun e w' => e = .returned (.int .i64 r) ∧ w = w' := by
    intro r hr
    unfold cmpI at hr
    rcases (by omega : x < y ∨ (¬ x < y ∧ y < x) ∨ (¬ x < y ∧ ¬ y < x)) with h | ⟨h, h'⟩ | ⟨h, h'⟩
    · rw [if_pos h] at hr
      subst hr
      go_enter Tryd.func177, Tryd.ntmps177
      go_wp2_with fail
      refine (isNaNI_any _ _).mono ?_
      rintro e w1 ⟨rfl, rfl⟩
      go_wp2_with fail
      refine (isNaNI_any _ _).mono ?_
      rintro e w1 ⟨rfl, rfl⟩
      go_wp2
      go_ret
      exact ⟨rfl, rfl⟩
    · rw [if_neg h, if_pos h'] at hr
      subst hr
      go_enter Tryd.func177, Tryd.ntmps177
      go_wp2_with fail
      refine (isNaNI_any _ _).mono ?_
      rintro e w1 ⟨rfl, rfl⟩
      go_wp2_with fail
      refine (isNaNI_any _ _).mono ?_
      rintro e w1 ⟨rfl, rfl⟩
      go_wp2
      go_ret
      exact ⟨rfl, rfl⟩
    · rw [if_neg h, if_neg h'] at hr
      subst hr
      go_enter Tryd.func177, Tryd.ntmps177
      go_wp2_with fail
      refine (isNaNI_any _ _).mono ?_
      rintro e w1 ⟨rfl, rfl⟩
      go_wp2_with fail
      refine (isNaNI_any _ _).mono ?_
      rintro e w1 ⟨rfl, rfl⟩
      go_wp2
      go_ret
      exact ⟨rfl, rfl⟩
  exact key _ rfl
/-- the first of two that is not 0 -/
def orI (a c : Int) : Int := if a = 0 then c else a
set_option maxHeartbeats 400000 in
theorem or_any (a c : Int) (b : Nat) (w : World) (h0 : w.cell? ⟨b, 0, none⟩ = some (.int .i64 a)) (h1 : w.cell? ⟨b, 1, none⟩ = some (.int .i64 c)) :
    Calls Tryd.prog 175 #[.slice (some ⟨b, 0, none⟩) 2 2] w fun e w' => e = .returned (.int .i64 (orI a c)) ∧ w = w' := by
  go_enter Tryd.func175, Tryd.ntmps175
  go_wp2_with fail
  go_loopw [8] (fun i wr => wr = w ∧ ∃ k : Nat, k ≤ 2 ∧ i = .int .i64 k ∧ (1 ≤ k → a = 0) ∧ (2 ≤ k → c = 0)) (fun i _ => 2 - (intOf i).toNat)
  case atStart => exact ⟨rfl, 0, by omega, rfl, fun h => absurd h (by decide), fun h => absurd h (by decide)⟩
  case round =>
    obtain ⟨rfl, k, hk, rfl, ha, hc⟩ := hrel
    rcases (by omega : k = 0 ∨ k = 1 ∨ k = 2) with rfl | rfl | rfl
    · by_cases h : a = 0
      · subst h
        go_wp2
        go_roundw
        case rel => exact ⟨by simp, 1, by omega, by go_num, by simp, by simp⟩
        case measure => simp [intOf]
      · have hr : orI a c = a := if_neg h
        go_wp2
        go_ret
        exact ⟨by rw [hr]; rfl, rfl⟩
    · have h := ha (by decide)
      subst h
      clear ha hc
      have hr : orI 0 c = c := if_pos rfl
      by_cases h : c = 0
      · subst h
        go_wp2
        go_roundw
        case rel => exact ⟨by simp, 2, by omega, by go_num, by simp, by simp⟩
        case measure => simp [intOf]
      · go_wp2
        go_ret
        exact ⟨by rw [hr]; rfl, rfl⟩
    · have h := ha (by decide)
      have g := hc (by decide)
      subst h
      subst g
      clear ha hc
      have hr : orI 0 0 = 0 := if_pos rfl
      go_wp2
      go_ret
      exact ⟨by rw [hr]; rfl, rfl⟩
def ordI (x y : Pst) : Int := orI (cmpI x.t y.t) (cmpI x.s y.s)
def lessP (x y : Pst) : Bool := decide (x.t < y.t) || (decide (x.t = y.t) && decide (x.s < y.s))
theorem ord_less (x y : Pst) : decide (ordI x y < 0) = lessP x y := by
  have c1 : ∀ a b : Int, a < b → cmpI a b = -1 := fun a b h => if_pos h
  have c2 : ∀ a : Int, cmpI a a = 0 := fun a => by unfold cmpI; rw [if_neg (by omega), if_neg (by omega)]
  have c3 : ∀ a b : Int, b < a → cmpI a b = 1 := fun a b h => by unfold cmpI; rw [if_neg (by omega), if_pos h]
  unfold ordI lessP
  rcases (by omega : x.t < y.t ∨ x.t = y.t ∨ y.t < x.t) with h | h | h
  · rw [c1 _ _ h]; simp [orI, h]
  · rw [h, c2]
    rcases (by omega : x.s < y.s ∨ x.s = y.s ∨ y.s < x.s) with g | g | g
    · rw [c1 _ _ g]; simp [orI, g]
    · rw [g, c2]; simp [orI]
    · rw [c3 _ _ g]; simp [orI]; omega
  · rw [c3 _ _ h]; simp [orI]; omega
def Pst.arr (x : Pst) : Array Value := #[.int .i64 x.d, .int .u64 x.t, .int .i64 x.s, .int .i64 x.k, .int .i64 x.a0, .int .i64 x.a1, .int .i64 x.a2, .int .i64 x.a3, .int .i64 x.a4, .int .i64 x.a5]

set_option maxRecDepth 4000 in
set_option maxHeartbeats 1000000 in
theorem order_any (x y : Pst) (w : World) : Calls Tryd.prog 162 #[.agg x.arr, .agg y.arr] w fun e w' => e = .returned (.int .i64 (ordI x y)) ∧ Below w.heap.size w w' := by
  obtain ⟨d, t, s, k, a0, a1, a2, a3, a4, a5⟩ := x
  obtain ⟨d', t', s', k', b0, b1, b2, b3, b4, b5⟩ := y
  have H1 := Lib.hid (fun W => cmpU_any t t' W)
  have H2 := Lib.hid (fun W => cmpI_any s s' W)
  show Calls _ _ _ w fun e w' => e = .returned (.int .i64 (orI (cmpI t t') (cmpI s s'))) ∧ _
  generalize cmpI t t' = c1 at *
  generalize cmpI s s' = c2 at *
  unfold Pst.arr
  simp only
  go_enter Tryd.func162, Tryd.ntmps162
  go_wp2_with fail
  have hX : ((w.alloc (.cells #[.int .i64 d, .int .u64 t, .int .i64 s, .int .i64 k, .int .i64 a0, .int .i64 a1, .int .i64 a2, .int .i64 a3, .int .i64 a4, .int .i64 a5] 49)).alloc (.cells #[.int .i64 d', .int .u64 t', .int .i64 s', .int .i64 k', .int .i64 b0, .int .i64 b1, .int .i64 b2, .int .i64 b3, .int .i64 b4, .int .i64 b5] 49)).heap[w.heap.size]? = some (.cells #[.int .i64 d, .int .u64 t, .int .i64 s, .int .i64 k, .int .i64 a0, .int .i64 a1, .int .i64 a2, .int .i64 a3, .int .i64 a4, .int .i64 a5] 49 (0, 0)) := row_alloc (new_rowW _ _ _ rfl) _
  have hY : ((w.alloc (.cells #[.int .i64 d, .int .u64 t, .int .i64 s, .int .i64 k, .int .i64 a0, .int .i64 a1, .int .i64 a2, .int .i64 a3, .int .i64 a4, .int .i64 a5] 49)).alloc (.cells #[.int .i64 d', .int .u64 t', .int .i64 s', .int .i64 k', .int .i64 b0, .int .i64 b1, .int .i64 b2, .int .i64 b3, .int .i64 b4, .int .i64 b5] 49)).heap[w.heap.size + 1]? = some (.cells #[.int .i64 d', .int .u64 t', .int .i64 s', .int .i64 k', .int .i64 b0, .int .i64 b1, .int .i64 b2, .int .i64 b3, .int .i64 b4, .int .i64 b5] 49 (0, 0)) := new_rowW _ _ _ (by simp)
  have HB := Lib.hid (((Below.refl w.heap.size w).alloc (Nat.le_refl _) (.cells #[.int .i64 d, .int .u64 t, .int .i64 s, .int .i64 k, .int .i64 a0, .int .i64 a1, .int .i64 a2, .int .i64 a3, .int .i64 a4, .int .i64 a5] 49)).alloc (by simp) (.cells #[.int .i64 d', .int .u64 t', .int .i64 s', .int .i64 k', .int .i64 b0, .int .i64 b1, .int .i64 b2, .int .i64 b3, .int .i64 b4, .int .i64 b5] 49))
  generalize (w.alloc (.cells #[.int .i64 d, .int .u64 t, .int .i64 s, .int .i64 k, .int .i64 a0, .int .i64 a1, .int .i64 a2, .int .i64 a3, .int .i64 a4, .int .i64 a5] 49)).alloc (.cells #[.int .i64 d', .int .u64 t', .int .i64 s', .int .i64 k', .int .i64 b0, .int .i64 b1, .int .i64 b2, .int .i64 b3, .int .i64 b4, .int .i64 b5] 49) = W at *
  have q1 := cell_of_row W _ 1 _ _ _ hX
  have q2 := cell_of_row W _ 2 _ _ _ hX
  have q3 := cell_of_row W _ 1 _ _ _ hY
  have q4 := cell_of_row W _ 2 _ _ _ hY
  clear hX hY
  go_region_held3 (fun w' => w'.cell? ⟨w.heap.size, 1, none⟩ = some (.int .u64 t) ∧ w'.cell? ⟨w.heap.size, 2, none⟩ = some (.int .i64 s) ∧ w'.cell? ⟨w.heap.size + 1, 1, none⟩ = some (.int .u64 t') ∧ w'.cell? ⟨w.heap.size + 1, 2, none⟩ = some (.int .i64 s')) (go_keep) (first
    | (go_at_call 176; refine (H1.out _).mono ?_; rintro e w1 ⟨rfl, rfl⟩)
    | (go_at_call 177; refine (H2.out _).mono ?_; rintro e w1 ⟨rfl, rfl⟩)
    | (go_at_call 175; refine (or_any c1 c2 _ _ (cell_of_row _ _ 0 _ _ _ (new_rowW _ _ _ rfl)) (cell_of_row _ _ 1 _ _ _ (new_rowW _ _ _ rfl))).mono ?_; rintro e w1 ⟨rfl, rfl⟩))
  go_wp2
  go_ret
  exact ⟨rfl, HB.out.drew.alloc HB.out.size _⟩
end Go.Proofs.YtellhmbebimenaaDoor
end

section
set_option linter.unusedVariables false
set_option linter.unusedSimpArgs false
namespace Go.Proofs.YtellhmbebimenaaDoor
open Go.RowKit

set_option maxHeartbeats 400000 in
theorem less_any (x y : Pst) (w : World) : Calls Tryd.prog 163 #[.agg x.arr, .agg y.arr] w fun e w' => e = .returned (.bool (lessP x y)) ∧ Below w.heap.size w w' := by
  have HO := Lib.hid (fun W => order_any x y W)
  have HL : Hid (decide (ordI x y < 0) = lessP x y) := Lib.hid (ord_less x y)
  generalize ordI x y = o at *
  generalize lessP x y = q at *
  have HB0 := Lib.hid (fun o o' => ((Below.refl w.heap.size w).alloc (Nat.le_refl _) o).alloc (by simp) o')
  obtain ⟨d, t, s, k, a0, a1, a2, a3, a4, a5⟩ := x
  obtain ⟨d', t', s', k', b0, b1, b2, b3, b4, b5⟩ := y
  unfold Pst.arr at *
  simp only at HO ⊢
  go_enter Tryd.func163, Tryd.ntmps163
  go_wp2_with fail
  refine (HO.out _).mono ?_
  rintro e w1 ⟨rfl, hb1⟩
  have HB := Lib.hid ((HB0.out _ _).trans (hb1.mono (by simp; omega)))
  clear hb1
  go_wp2
  go_ret
  exact ⟨ret_bool HL.out, HB.out⟩

set_option maxHeartbeats 400000 in
theorem ahead_any (x y : Pst) (w : World) : Calls Tryd.prog 178 #[.agg x.arr, .agg y.arr] w fun e w' => e = .returned (.bool (lessP x y)) ∧ Below w.heap.size w w' := by
  obtain ⟨d, t, s, k, a0, a1, a2, a3, a4, a5⟩ := x
  obtain ⟨d', t', s', k', b0, b1, b2, b3, b4, b5⟩ := y
  have HL : Hid (∀ q, (t ≠ t' → q = decide (t < t')) → (t = t' → q = decide (s < s')) → q = lessP ⟨d, t, s, k, a0, a1, a2, a3, a4, a5⟩ ⟨d', t', s', k', b0, b1, b2, b3, b4, b5⟩) := Lib.hid (fun q h1 h2 => by
    unfold lessP
    by_cases h : t = t'
    · rw [h2 h]; simp [h]
    · rw [h1 h]; simp [h])
  generalize lessP ⟨d, t, s, k, a0, a1, a2, a3, a4, a5⟩ ⟨d', t', s', k', b0, b1, b2, b3, b4, b5⟩ = r at *
  unfold Pst.arr
  simp only
  have HB := Lib.hid (fun o o' => ((Below.refl w.heap.size w).alloc (Nat.le_refl _) o).alloc (by simp) o')
  by_cases h : t = t'
  · have HR := Lib.hid (HL.out _ (fun h' => absurd h h') (fun _ => rfl))
    subst h
    go_enter Tryd.func178, Tryd.ntmps178
    go_wp2
    go_ret
    exact ⟨ret_bool HR.out, HB.out _ _⟩
  · have HR := Lib.hid (HL.out _ (fun _ => rfl) (fun h' => absurd h' h))
    go_enter Tryd.func178, Tryd.ntmps178
    go_wp2
    go_ret
    exact ⟨ret_bool HR.out, HB.out _ _⟩
theorem eqAny (x y : Pst) : ∃ q : Bool, ∀ w : World, (binOp .eql 49 (.agg x.arr) (.agg y.arr)).run Tryd.prog w = .ok (.bool q) w := by
  refine ⟨(x.d == y.d && (x.t == y.t && (x.s == y.s && (x.k == y.k && (x.a0 == y.a0 && (x.a1 == y.a1 && (x.a2 == y.a2 && (x.a3 == y.a3 && (x.a4 == y.a4 && (x.a5 == y.a5)))))))))), fun w => ?_⟩
  have hS : Tryd.prog.underlying 49 = some (.struct (Tryd.prog.fieldsOf 49)) := by kernel_rfl
  have hp : Tryd.prog.stoodInHeld 49 = false := by kernel_rfl
  unfold Pst.arr
  rw [run_eql_struct, show (10000 : Nat) = 9999 + 1 from rfl, run_equalIn_agg w 9999 49 _ _ hS hp]
  simp only [Program.fieldsOf, Tryd.underlying49]
  go_simp
  repeat' split
  all_goals simp [*]
theorem guardPst' (x y : Operand) (xs ys : Array Value) (w : World) : (eqGuard .eql 49 x y (.agg xs) (.agg ys)).run Tryd.prog w = .ok () w := run_eqGuard_agg w _ _ _ _ _ _ (by kernel_rfl)
end Go.Proofs.YtellhmbebimenaaDoor
end

section
set_option linter.unusedVariables false
set_option linter.unusedSimpArgs false
namespace Go.Proofs.YtellhmbebimenaaDoor
open Go.RowKit

theorem beVal_ofBe (l : List UInt8) : beVal l = Wire.ofBe l := by
  unfold beVal Wire.ofBe
  congr 1
  funext n b
  unfold Wire.bstep
  omega
/-- what is left of bytes behind a place -/
def stAt (b : List UInt8) (o : Nat) : Option (List UInt8) := if o ≤ b.length then some (b.drop o) else none
def vAt (b : List UInt8) (o k : Nat) : Nat := rNumV (stAt b o) (k : Int)
theorem stAt_zero (b : List UInt8) : stAt b 0 = some b := by unfold stAt; rw [if_pos (Nat.zero_le _)]; rfl
theorem stAt_num (b : List UInt8) (o k : Nat) (hk : k = 1 ∨ k = 2 ∨ k = 4 ∨ k = 8) : rNumS (stAt b o) (k : Int) = stAt b (o + k) := by
  have hs : rSize (k : Int) = true := by rcases hk with rfl | rfl | rfl | rfl <;> rfl
  unfold rNumS
  rw [if_pos hs]
  unfold stAt
  by_cases h : o ≤ b.length
  · rw [if_pos h]
    by_cases h2 : o + k ≤ b.length
    · rw [if_pos h2, (rTake_fit (l := b.drop o) (n := k) (by rw [List.length_drop]; omega)).2, List.drop_drop]
    · rw [if_neg h2]
      exact (rTake_bad (fun l e => by injection e with e; subst e; rw [List.length_drop]; omega)).2
  · rw [if_neg h, if_neg (by omega)]; rfl
theorem stAt_end (b : List UInt8) : stAt b 63 = some [] ↔ b.length = 63 := by
  unfold stAt
  by_cases h : 63 ≤ b.length
  · rw [if_pos h]
    simp only [Option.some.injEq, List.drop_eq_nil_iff]; omega
  · rw [if_neg h]
    constructor
    · intro h; cases h
    · intro h2; omega
theorem vAt_lt (b : List UInt8) (o k : Nat) : vAt b o k < 256 ^ k := rNumV_lt _ k
theorem vAt_num {b : List UInt8} {o : Nat} (k : Nat) (h : o ≤ b.length) : numV (b.drop o) (k : Int) = vAt b o k := by
  unfold vAt stAt
  rw [if_pos h, (rNum_t _ _).2]
theorem be_vAt {b : List UInt8} {o k : Nat} (hk : k = 1 ∨ k = 2 ∨ k = 4 ∨ k = 8) (h : o + k ≤ b.length) : Wire.be (vAt b o k) k = (b.drop o).take k := by
  have hs : rSize (k : Int) = true := by rcases hk with rfl | rfl | rfl | rfl <;> rfl
  have hl : ((b.drop o).take k).length = k := by rw [List.length_take, List.length_drop]; omega
  unfold vAt rNumV stAt
  rw [if_pos hs, if_pos (by omega)]
  unfold rBy
  rw [(rTake_fit (l := b.drop o) (n := k) (by rw [List.length_drop]; omega)).1]
  show Wire.be (beVal ((b.drop o).take k)) k = _
  have := Wire.be_ofBe ((b.drop o).take k)
  rwa [hl, ← beVal_ofBe] at this
theorem cut_step (b : List UInt8) (o k : Nat) : (b.drop o).take k ++ b.drop (o + k) = b.drop o := by
  rw [← List.drop_drop, List.take_append_drop]
def pOf (b : List UInt8) : Pst := ⟨vAt b 10 4, vAt b 0 8, vAt b 8 2, vAt b 14 1, wrap64 (vAt b 15 8), wrap64 (vAt b 23 8), wrap64 (vAt b 31 8), wrap64 (vAt b 39 8), wrap64 (vAt b 47 8), wrap64 (vAt b 55 8)⟩
def zeroP : Pst := ⟨0, 0, 0, 0, 0, 0, 0, 0, 0, 0⟩
def encH (p : Pst) : List UInt8 := ((Wire.be (u64 p.t) 8 ++ Wire.be (u64 p.s) 2) ++ Wire.be (u64 p.d) 4) ++ Wire.be (u64 p.k) 1
def encA (am : List Int) : List UInt8 := am.flatMap fun a => Wire.be (u64 a) 8
def encP (p : Pst) : List UInt8 := encH p ++ encA p.am
theorem u64_wrap (N : Nat) (h : N < 18446744073709551616) : u64 (wrap64 (N : Int)) = N := by unfold u64 wrap64; omega
theorem u64_of (N : Nat) (h : N < 18446744073709551616) : u64 (N : Int) = N := by unfold u64; omega
theorem encP_of {b : List UInt8} (h : b.length = 63) : encP (pOf b) = b := by
  have l := fun o k => vAt_lt b o k
  unfold encP encH encA Pst.am pOf
  simp only [List.flatMap_cons, List.flatMap_nil, List.append_nil]
  rw [u64_of _ (Nat.lt_of_lt_of_le (l 0 8) (by decide)), u64_of _ (Nat.lt_of_lt_of_le (l 8 2) (by decide)), u64_of _ (Nat.lt_of_lt_of_le (l 10 4) (by decide)), u64_of _ (Nat.lt_of_lt_of_le (l 14 1) (by decide))]
  rw [u64_wrap _ (Nat.lt_of_lt_of_le (l 15 8) (by decide)), u64_wrap _ (Nat.lt_of_lt_of_le (l 23 8) (by decide)), u64_wrap _ (Nat.lt_of_lt_of_le (l 31 8) (by decide)), u64_wrap _ (Nat.lt_of_lt_of_le (l 39 8) (by decide)), u64_wrap _ (Nat.lt_of_lt_of_le (l 47 8) (by decide)), u64_wrap _ (Nat.lt_of_lt_of_le (l 55 8) (by decide))]
  rw [be_vAt (by decide) (by omega), be_vAt (by decide) (by omega), be_vAt (by decide) (by omega), be_vAt (by decide) (by omega), be_vAt (by decide) (by omega), be_vAt (by decide) (by omega), be_vAt (by decide) (by omega), be_vAt (by decide) (by omega), be_vAt (by decide) (by omega), be_vAt (by decide) (by omega)]
  have e : b.drop 63 = [] := List.drop_of_length_le (by omega)
  have s9 := cut_step b 55 8
  rw [show 55 + 8 = 63 from rfl, e, List.append_nil] at s9
  simp only [List.append_assoc]
  rw [s9, cut_step b 47 8, cut_step b 39 8, cut_step b 31 8, cut_step b 23 8, cut_step b 15 8, cut_step b 14 1, cut_step b 10 4, cut_step b 8 2, cut_step b 0 8]
  rfl
end Go.Proofs.YtellhmbebimenaaDoor
end
