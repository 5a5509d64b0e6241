/- Contracts of the wire reference's Cut, TakeNumber and Take. -/
import Derived.Test.YtbmphlpmipkpcaaGreatRsm39
import Derived.Test.YtbmphlpmipkpcaaGreatRsm48
import Derived.Deep.QuietTactic
import Derived.BigQuiet

set_option linter.unusedVariables false
set_option linter.unusedSimpArgs false
namespace Go.Proofs.YtbmphlpmipkpcaaGreat
open Go.RowKit

theorem BS.head {w : World} {p : Option Addr} {n cap k : Nat} {l : List UInt8} (h : BS w (.slice p n cap) l) (hk : k ≤ l.length) : BS w (.slice p k cap) (l.take k) := by
  obtain ⟨p', cap', e, h1, h2, h3⟩ := h
  injection e with e1 e2 e3
  subst e1; subst e3
  have hl : (l.take k).length = k := by rw [List.length_take]; omega
  refine ⟨_, _, by rw [hl], by omega, h2, fun hne => ?_⟩
  obtain ⟨b, o, e, hb, hc⟩ := h3 (fun h => hne (by rw [h]; simp))
  refine ⟨b, o, e, hb, fun i x hx => hc i x ?_⟩
  have hi : i < k := by have := (List.getElem?_eq_some_iff.1 hx).1; omega
  rwa [List.getElem?_take_of_lt hi] at hx
theorem BS.bounds' {w : World} {q : Option Addr} {n cap : Nat} {l : List UInt8} (h : BS w (.slice q n cap) l) : n = l.length ∧ n ≤ cap ∧ cap ≤ maxLen := by
  obtain ⟨p', cap', e, h1, h2, h3⟩ := h
  injection e with e1 e2 e3
  subst e1; subst e3
  exact ⟨e2, by omega, h2⟩
theorem BS.drewN' {w : World} {v : Value} {l : List UInt8} (h : BS w v l) (n : Nat) : BS (w.drewN n) v l := h.below (below_drewN w n)
/-- where a slice's tail lies -/
def tailAt (p : Option Addr) (cap k : Nat) : Option Addr := if cap - k = 0 then p.map fun a => a else p.map fun a => a.add k
theorem BS.tail {w : World} {p : Option Addr} {n cap k : Nat} {l : List UInt8} (h : BS w (.slice p n cap) l) (hk : k ≤ l.length) : BS w (.slice (tailAt p cap k) (n - k) (cap - k)) (l.drop k) := by
  obtain ⟨p', cap', e, h1, h2, h3⟩ := h
  injection e with e1 e2 e3
  subst e1; subst e3; subst e2
  have hl : (l.drop k).length = l.length - k := by rw [List.length_drop]
  refine ⟨_, _, by rw [hl], by omega, by omega, fun hne => ?_⟩
  have hlt : k < l.length := by
    rcases Nat.lt_or_ge k l.length with h | h
    · exact h
    · exact absurd (List.drop_of_length_le h) hne
  obtain ⟨b, o, rfl, hb, hc⟩ := h3 (fun h => by rw [h] at hlt; simp at hlt)
  refine ⟨b, o + k, ?_, hb, fun i x hx => ?_⟩
  · unfold tailAt
    rw [if_neg (by omega), Option.map_some, Go.WideShapes.add_plain]
  · rw [List.getElem?_drop] at hx
    rw [Nat.add_assoc]
    exact hc (k + i) x hx
theorem run_head' (q : Option Addr) (n cap k : Nat) (h : k ≤ cap) (W : World) : (Instr.slice 47 (.slice q n cap) none (some (.int .i64 (k : Int))) none).run Tryz.prog W = .ok (.slice q k cap) W := by
  have ht : Tryz.prog.underlying 47 = some (.slice (Tryz.prog.elem 47)) := by kernel_rfl
  have hz : ∀ W : World, (sizeOf (Tryz.prog.elem 47)).run Tryz.prog W = .ok 1 W := fun W => by
    rw [show Tryz.prog.elem 47 = 5 from by kernel_rfl]; simp [go_sem]
  rw [run_slice_h W _ _ _ _ ht _ _ (by omega) (by omega), hz]
  cases q <;> simp [sliced, Result.andThen, Addr.add]
theorem run_tail (q : Option Addr) (n cap k : Nat) (h : k ≤ n) (h2 : n ≤ cap) (W : World) : (Instr.slice 47 (.slice q n cap) (some (.int .i64 (k : Int))) none none).run Tryz.prog W = .ok (.slice (tailAt q cap k) (n - k) (cap - k)) W := by
  have ht : Tryz.prog.underlying 47 = some (.slice (Tryz.prog.elem 47)) := by kernel_rfl
  have hz : ∀ W : World, (sizeOf (Tryz.prog.elem 47)).run Tryz.prog W = .ok 1 W := fun W => by
    rw [show Tryz.prog.elem 47 = 5 from by kernel_rfl]; simp [go_sem]
  rw [run_slice_l W _ _ _ _ ht _ _ (by omega) (by omega), hz]
  unfold tailAt
  by_cases hc : cap - k = 0
  · cases q <;> simp [sliced, Result.andThen, hc]
    intro h; omega
  · cases q <;> simp [sliced, Result.andThen, hc]
    intro h; omega

def tCut (b : List UInt8) (n : Int) : Option (List UInt8 × List UInt8) := if 0 ≤ n ∧ n ≤ b.length then some (b.take n.toNat, b.drop n.toNat) else none
def cutX (b : List UInt8) (n : Int) : List UInt8 := ((tCut b n).map Prod.fst).getD []
def cutY (b : List UInt8) (n : Int) : List UInt8 := ((tCut b n).map Prod.snd).getD []

set_option maxRecDepth 4000 in
set_option maxHeartbeats 1000000 in
theorem rCut_any (v : Value) (b : List UInt8) (n : Int) (w : World) (hv : BS w v b) :
    Calls Tryz.prog 120 #[v, .int .i64 n] w fun e w' => ∃ x y, e = .returned (.tuple #[x, y, .bool (tCut b n).isSome]) ∧ (∀ w0, BS w0 v b → BS w0 x (cutX b n) ∧ BS w0 y (cutY b n)) ∧ ∃ nd, w' = w.drewN nd := by
  have HV := Lib.hid hv
  by_cases hf : 0 ≤ n ∧ n ≤ b.length
  · obtain ⟨k, rfl⟩ := Int.eq_ofNat_of_zero_le hf.1
    have hk : k ≤ b.length := by omega
    have HT : Hid (tCut b (k : Int) = some (b.take k, b.drop k)) := Lib.hid (by unfold tCut; rw [if_pos hf, Int.toNat_natCast])
    have HXY : Hid (cutX b (k : Int) = b.take k ∧ cutY b (k : Int) = b.drop k) := Lib.hid (by unfold cutX cutY; rw [HT.out]; exact ⟨rfl, rfl⟩)
    rw [HT.out, HXY.out.1, HXY.out.2]
    obtain ⟨p, cap, rfl, g1, g2, -⟩ := hv
    have HXY2 := Lib.hid (fun w0 (h0 : BS w0 (.slice p b.length cap) b) => (⟨h0.head hk, h0.tail hk⟩ : BS w0 _ _ ∧ BS w0 _ _))
    have f1 := run_head' p b.length cap k (by omega)
    have f2 := run_tail p b.length cap k hk g1
    unfold maxLen at g2
    rw [show (some (b.take k, b.drop k)).isSome = true from rfl]
    clear HT HXY hf
    generalize tailAt p cap k = q at *
    generalize b.length = m at *
    go_enter Tryz.func120, Tryz.ntmps120
    go_wp2_with fail
    go_quiet (fail)
    go_wp2
    go_ret3
    exact ⟨_, _, rfl, HXY2.out, _, rfl⟩
  · have HT : Hid (tCut b n = none) := Lib.hid (if_neg hf)
    have HXY : Hid (cutX b n = [] ∧ cutY b n = []) := Lib.hid (by unfold cutX cutY; rw [HT.out]; exact ⟨rfl, rfl⟩)
    rw [HT.out, HXY.out.1, HXY.out.2]
    obtain ⟨p, cap, rfl, g1, g2, -⟩ := hv
    unfold maxLen at g2
    rw [show (none : Option (List UInt8 × List UInt8)).isSome = false from rfl]
    clear HT HXY
    generalize b.length = m at *
    by_cases h0 : n < 0
    · go_enter Tryz.func120, Tryz.ntmps120
      go_wp2
      go_ret3
      exact ⟨_, _, rfl, fun _ _ => ⟨BS.nil _, BS.nil _⟩, 0, rfl⟩
    · have h1 : (m : Int) < n := by omega
      go_enter Tryz.func120, Tryz.ntmps120
      go_wp2
      go_ret3
      exact ⟨_, _, rfl, fun _ _ => ⟨BS.nil _, BS.nil _⟩, 0, rfl⟩

theorem maySize_rSize (s : Int) : Wire.maySize s = rSize s := by
  unfold Wire.maySize rSize
  rw [Bool.eq_iff_iff]; simp
/-- a number that is taken off *-/
def tNum (b : List UInt8) (s : Int) : Option (Nat × List UInt8) := if rSize s then (tCut b s).map fun p => (beVal p.1, p.2) else none
def numV (b : List UInt8) (s : Int) : Nat := ((tNum b s).map Prod.fst).getD 0
def numR (b : List UInt8) (s : Int) : List UInt8 := ((tNum b s).map Prod.snd).getD []
theorem rNum_t (l : List UInt8) (s : Int) : rNumS (some l) s = (tNum l s).map Prod.snd ∧ rNumV (some l) s = numV l s := by
  unfold rNumS rNumV numV tNum rBy rTake rRest tCut
  by_cases h : rSize s = true
  · by_cases h2 : 0 ≤ s ∧ s ≤ l.length
    · simp [h, h2]
    · simp [h, h2]; rfl
  · simp [h]
theorem sum_step (x : List UInt8) (k i : Nat) (c : UInt8) (hk : k ≤ 8) (hx : x.length = k) (h : x[i]? = some c) :
    c.toNat * 256 ^ (k - 1 - i) < 18446744073709551616 ∧ beVal (x.take i) * 256 ^ (k - i) + c.toNat * 256 ^ (k - 1 - i) = beVal (x.take (i + 1)) * 256 ^ (k - (i + 1)) ∧ beVal (x.take (i + 1)) * 256 ^ (k - (i + 1)) < 18446744073709551616 := by
  have hi := (List.getElem?_eq_some_iff.1 h).1
  have h1 : beVal (x.take (i + 1)) = beVal (x.take i) * 256 + c.toNat := (beVal_step h (by omega)).2
  have h2 : k - 1 - i = k - (i + 1) := by omega
  have h3 : k - i = (k - (i + 1)) + 1 := by omega
  have h4 := beVal_lt (i + 1) (x.take (i + 1)) (by rw [List.length_take]; omega)
  have h5 : beVal (x.take (i + 1)) * 256 ^ (k - (i + 1)) < 18446744073709551616 := by
    have h6 : beVal (x.take (i + 1)) * 256 ^ (k - (i + 1)) < 256 ^ (i + 1) * 256 ^ (k - (i + 1)) := Nat.mul_lt_mul_of_pos_right h4 (Nat.pow_pos (by decide))
    rw [← Nat.pow_add] at h6
    have h7 : 256 ^ (i + 1 + (k - (i + 1))) ≤ 256 ^ 8 := Nat.pow_le_pow_right (by decide) (by omega)
    exact Nat.lt_of_lt_of_le h6 h7
  have h8 : beVal (x.take i) * 256 ^ (k - i) + c.toNat * 256 ^ (k - 1 - i) = beVal (x.take (i + 1)) * 256 ^ (k - (i + 1)) := by
    rw [h1, h2, h3, Nat.pow_succ, Nat.add_mul, Nat.mul_assoc, Nat.mul_comm 256]
  exact ⟨by omega, h8, h5⟩

set_option maxRecDepth 4000 in
set_option maxHeartbeats 1000000 in
theorem rTakeNumber_any (v : Value) (b : List UInt8) (s : Int) (w : World) (hv : BS w v b) :
    Calls Tryz.prog 119 #[v, .int .i64 s] w fun e w' => ∃ y, e = .returned (.tuple #[.int .u64 (numV b s : Int), y, .bool (tNum b s).isSome]) ∧ (∀ w0, BS w0 v b → BS w0 y (numR b s)) ∧ ∃ nd, w' = w.drewN nd := by
  have HM := Lib.hid (rmaySize_any s)
  rw [maySize_rSize] at HM
  have HCU := Lib.hid (rCut_any v b s w hv)
  have HVV := Lib.hid hv
  obtain ⟨p, cap, rfl, -, -, -⟩ := hv
  generalize b.length = m at *
  by_cases hs : rSize s = true
  · have h2 : ∃ k : Nat, 1 ≤ k ∧ k ≤ 8 ∧ s = (k : Int) := by
      unfold rSize at hs
      simp only [Bool.or_eq_true, beq_iff_eq] at hs
      exact ⟨s.toNat, by omega, by omega, by omega⟩
    obtain ⟨k, k1, k8, rfl⟩ := h2
    rw [hs] at HM
    cases hc : tCut b (k : Int) with
    | none =>
      have HT : Hid (tNum b (k : Int) = none) := Lib.hid (by unfold tNum; rw [if_pos hs, hc]; rfl)
      have HV : Hid (numV b (k : Int) = 0 ∧ numR b (k : Int) = []) := Lib.hid (by unfold numV numR; rw [HT.out]; exact ⟨rfl, rfl⟩)
      rw [HT.out, HV.out.1, HV.out.2, show (none : Option (Nat × List UInt8)).isSome = false from rfl]
      rw [hc, show (none : Option (List UInt8 × List UInt8)).isSome = false from rfl] at HCU
      clear HT HV hc hs
      go_enter Tryz.func119, Tryz.ntmps119
      go_wp2_with fail
      refine (HM.out _).mono ?_
      rintro e w1 ⟨rfl, rfl⟩
      go_wp2_with fail
      refine HCU.out.mono ?_
      rintro e w2 ⟨x, y, rfl, hxy, nd, rfl⟩
      obtain ⟨⟨px, cx, rfl, -, -, -⟩, ⟨py, cy, rfl, -, -, -⟩⟩ := hxy w HVV.out
      clear hxy
      go_wp2
      go_ret3
      exact ⟨_, rfl, fun _ _ => BS.nil _, _, rfl⟩
    | some q =>
      have HX : Hid (cutX b (k : Int) = q.1 ∧ cutY b (k : Int) = q.2) := Lib.hid (by unfold cutX cutY; rw [hc]; exact ⟨rfl, rfl⟩)
      have HT : Hid (tNum b (k : Int) = some (beVal q.1, q.2)) := Lib.hid (by unfold tNum; rw [if_pos hs, hc]; rfl)
      have HV : Hid (numV b (k : Int) = beVal q.1 ∧ numR b (k : Int) = q.2) := Lib.hid (by unfold numV numR; rw [HT.out]; exact ⟨rfl, rfl⟩)
      have hlen : q.1.length = k := by
        unfold tCut at hc
        split at hc
        · injection hc with hc
          subst hc
          simp only [List.length_take]; omega
        · cases hc
      rw [HT.out, HV.out.1, HV.out.2, show (some (beVal q.1, q.2) : Option (Nat × List UInt8)).isSome = true from rfl]
      rw [hc, HX.out.1, HX.out.2, show (some q : Option (List UInt8 × List UInt8)).isSome = true from rfl] at HCU
      clear HT HV HX hc hs
      obtain ⟨xl, yl⟩ := q
      have HL := Lib.hid hlen
      dsimp only at HL HCU ⊢
      clear hlen
      go_enter Tryz.func119, Tryz.ntmps119
      go_wp2_with fail
      refine (HM.out _).mono ?_
      rintro e w1 ⟨rfl, rfl⟩
      go_wp2_with fail
      refine HCU.out.mono ?_
      rintro e w2 ⟨x, y, rfl, hxy, nd0, rfl⟩
      have HYB := Lib.hid (fun w0 h0 => (hxy w0 h0).2)
      obtain ⟨hx, hy⟩ := hxy w HVV.out
      clear hxy
      obtain ⟨py, cy, rfl, -, -, -⟩ := hy
      obtain ⟨px, cx, rfl, gx1, gx2, hxc⟩ := hx
      have HXC := Lib.hid hxc
      clear hxc
      rw [HL.out] at gx1 ⊢
      generalize yl.length = ny at *
      go_wp2_with fail
      go_loopw [10, 11] (fun a i wr => (∃ nd, wr = w.drewN nd) ∧ ∃ (j A : Nat), j ≤ k ∧ i = .int .i64 (j : Int) ∧ a = .int .u64 (A : Int) ∧ A = beVal (xl.take j) * 256 ^ (k - j)) (fun _ i _ => k - (intOf i).toNat)
      case atStart => exact ⟨⟨nd0, rfl⟩, 0, 0, Nat.zero_le _, rfl, rfl, by simp [beVal]⟩
      case round =>
        obtain ⟨⟨nd, hnd⟩, j, A, hj, rfl, rfl, hA⟩ := hrel
        have HA := Lib.hid hA
        have HND := Lib.hid hnd
        clear hA hnd
        by_cases hlt : j < k
        · obtain ⟨c, hc⟩ : ∃ c, xl[j]? = some c := ⟨_, List.getElem?_eq_getElem (by have := HL.out; omega)⟩
          obtain ⟨g, o, rfl, hg, hcell⟩ := HXC.out (by intro h; rw [h] at hc; simp at hc)
          have hcell := hcell j c hc
          obtain ⟨s1, s2, s3⟩ := sum_step xl k j c k8 HL.out hc
          rw [← HA.out] at s2
          have HB := Lib.hid s2
          have HPW := Lib.hid (fun W => rpower_any (k - 1 - j) (by omega) W)
          have hP1 : 0 < 256 ^ (k - 1 - j) := Nat.pow_pos (by decide)
          generalize 256 ^ (k - 1 - j) = P at *
          generalize hAA : beVal (xl.take (j + 1)) * 256 ^ (k - (j + 1)) = A2 at *
          have HA2 := Lib.hid hAA
          have hcc := c.toNat_lt
          generalize c.toNat = cc at *
          have hz : (cc : Int) * (P : Int) = ((cc * P : Nat) : Int) := by simp
          generalize cc * P = Q at *
          have z0 : ((k - 1 - j : Nat) : Int) = (k : Int) - 1 - (j : Int) := by omega
          rw [z0] at HPW
          clear hAA hc
          go_wp2_with fail
          have hcell : wr.cell? ⟨g, o + j, none⟩ = some (.int .u8 (cc : Int)) := by rw [HND.out]; exact hcell
          have z1 : IntKind.i64.wrap ((k : Int) - 1) = (k : Int) - 1 := by rw [IntKind.wrap_i64]; omega
          have z2 : IntKind.i64.wrap ((k : Int) - 1 - (j : Int)) = (k : Int) - 1 - (j : Int) := by rw [IntKind.wrap_i64]; omega
          have z3 : IntKind.u64.wrap (cc : Int) = (cc : Int) := by rw [IntKind.wrap_u64]; omega
          have z4 : IntKind.u64.wrap (Q : Int) = (Q : Int) := by rw [IntKind.wrap_u64]; omega
          have z5 : (cc : Int) * (P : Int) = (Q : Int) := hz
          have z6 : IntKind.u64.wrap ((A : Int) + (Q : Int)) = ((A2 : Nat) : Int) := by rw [IntKind.wrap_u64]; omega
          go_quiet ((go_at_call 186; exact (HPW.out _).mono (fun _ _ h => ⟨h.1, _, h.2.symm⟩)))
          go_wp2
          go_roundw
          case rel => exact ⟨⟨_, by rw [HND.out, World.drewN_drewN]⟩, j + 1, A2, by omega, by go_num, by go_num, HA2.out.symm⟩
          case measure => simp [intOf]; omega
        · obtain rfl : j = k := by omega
          have HAF : Hid (A = beVal xl) := Lib.hid (by rw [HA.out, List.take_of_length_le (by have := HL.out; omega)]; simp)
          rw [HAF.out]
          go_wp2
          go_ret3
          exact ⟨.slice py ny cy, rfl, HYB.out, nd, HND.out⟩
  · have HT : Hid (tNum b s = none) := Lib.hid (by unfold tNum; rw [if_neg hs])
    have HV : Hid (numV b s = 0 ∧ numR b s = []) := Lib.hid (by unfold numV numR; rw [HT.out]; exact ⟨rfl, rfl⟩)
    rw [HT.out, HV.out.1, HV.out.2, show (none : Option (Nat × List UInt8)).isSome = false from rfl]
    rw [show rSize s = false from by simpa using hs] at HM
    clear HT HV hs
    go_enter Tryz.func119, Tryz.ntmps119
    go_wp2_with fail
    refine (HM.out _).mono ?_
    rintro e w1 ⟨rfl, rfl⟩
    go_wp2
    go_ret3
    exact ⟨_, rfl, fun _ _ => BS.nil _, 0, rfl⟩
end Go.Proofs.YtbmphlpmipkpcaaGreat
