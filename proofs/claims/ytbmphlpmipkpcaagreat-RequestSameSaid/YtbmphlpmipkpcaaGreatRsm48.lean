/- Contracts of the wire reference: power, MaySize, Number, Blob. -/
import Derived.Test.YtbmphlpmipkpcaaGreatRsm47

set_option linter.unusedVariables false
set_option linter.unusedSimpArgs false
namespace Go.Proofs.YtbmphlpmipkpcaaGreat
open Go.RowKit

set_option maxHeartbeats 400000 in
theorem rpower_any (n : Nat) (hn : n ≤ 7) (w : World) :
    Calls Tryz.prog 186 #[.int .i64 (n : Int)] w fun e w' => e = .returned (.int .u64 ((256 ^ n : Nat) : Int)) ∧ w = w' := by
  go_enter Tryz.func186, Tryz.ntmps186
  go_wp2
  go_loop [3, 4] (fun p i => ∃ (k P : Nat), k ≤ n ∧ i = .int .i64 k ∧ p = .int .u64 (P : Int) ∧ P = 256 ^ k) (fun _ i => n - (intOf i).toNat)
  case atStart => exact ⟨0, 1, Nat.zero_le _, rfl, rfl, rfl⟩
  case round =>
    obtain ⟨k, P, hk, rfl, rfl, hP⟩ := hrel
    have HP := Lib.hid hP; clear hP
    by_cases hlt : k < n
    · have hb : P * 256 ≤ 72057594037927936 := by
        have h1 : P * 256 = 256 ^ (k + 1) := by rw [HP.out, Nat.pow_succ]
        rw [h1]
        exact Nat.pow_le_pow_right (n := 256) (by decide) (show k + 1 ≤ 7 by omega)
      go_wp2
      go_round
      case rel => exact ⟨k + 1, P * 256, by omega, by go_num, by go_num, by rw [HP.out, Nat.pow_succ]⟩
      case measure => simp [intOf]; omega
    · obtain rfl : k = n := by omega
      go_wp2
      go_ret
      exact ⟨by have := HP.out; subst this; rfl, rfl⟩

set_option maxHeartbeats 400000 in
theorem rmaySize_any (s : Int) (w : World) :
    Calls Tryz.prog 185 #[.int .i64 s] w fun e w' => e = .returned (.bool (Wire.maySize s)) ∧ w = w' := by
  have HM : Hid (Wire.maySize s = (decide (s = 1) || decide (s = 2) || decide (s = 4) || decide (s = 8))) := Lib.hid rfl
  go_enter Tryz.func185, Tryz.ntmps185
  go_wp2
  all_goals
    go_ret
    exact ⟨ret_boolW (by rw [HM.out, Bool.eq_iff_iff]; simp_all), rfl⟩

theorem ret_intW {k : IntKind} {a b : Int} (h : a = b) : Ending.returned (.int k a) = .returned (.int k b) := by rw [h]
/-- a number's bytes; none: it has no room -/
def pNum (N : Nat) (s : Int) : Option (List UInt8) := if Wire.maySize s = true ∧ N < 256 ^ s.toNat then some (Wire.be N s.toNat) else none
def pGet (o : Option (List UInt8)) : List UInt8 := o.getD []

theorem be_at (N s j : Nat) (h : j < s) : (Wire.be N s)[j]? = some (UInt8.ofNat (N / 256 ^ (s - 1 - j) % 256)) := by
  have h1 : s = j + (s - j) := by omega
  have h2 := Wire.be_drop N j (s - j)
  rw [← h1] at h2
  have h3 : (Wire.be N s)[j]? = ((Wire.be N s).drop j)[0]? := by rw [List.getElem?_drop]; rfl
  rw [h3, h2, show s - j = (s - 1 - j) + 1 from by omega, Wire.be_cons]
  rfl

def RNum (w : World) (t : Nat) (L : List UInt8) (o i : Value) (wr : World) : Prop :=
  ∃ j m : Nat, j + m = t ∧ ((∃ m' : Nat, m = m' + 1 ∧ i = .int .i64 (m' : Int)) ∨ (m = 0 ∧ i = .int .i64 (-1))) ∧ Below w.heap.size w wr ∧ wr.ownsRow w.heap.size 5 1 o j (bytesV (L.take j))

set_option maxRecDepth 4000 in
set_option maxHeartbeats 1000000 in
theorem rNumber_any (N : Nat) (hN : N < 18446744073709551616) (s : Int) (w : World) :
    Calls Tryz.prog 145 #[.int .u64 (N : Int), .int .i64 s] w fun e w' => ∃ v, e = .returned (.tuple #[v, .bool (pNum N s).isSome]) ∧ w'.ownsRow w.heap.size 5 1 v (pGet (pNum N s)).length (bytesV (pGet (pNum N s))) ∧ Below w.heap.size w w' := by
  by_cases hs : Wire.maySize s = true
  · obtain ⟨t, rfl, ht, ht8⟩ : ∃ t : Nat, s = (t : Int) ∧ (t = 1 ∨ t = 2 ∨ t = 4 ∨ t = 8) ∧ t ≤ 8 := by
      unfold Wire.maySize at hs
      simp only [Bool.or_eq_true, decide_eq_true_eq] at hs
      rcases hs with ((h | h) | h) | h
      · exact ⟨1, h, by omega, by omega⟩
      · exact ⟨2, h, by omega, by omega⟩
      · exact ⟨4, h, by omega, by omega⟩
      · exact ⟨8, h, by omega, by omega⟩
    have HM := Lib.hid (rmaySize_any (t : Int))
    rw [hs] at HM
    have HP : Hid (pNum N (t : Int) = if N < 256 ^ t then some (Wire.be N t) else none) := Lib.hid (by
      unfold pNum
      rw [Int.toNat_natCast]
      by_cases h : N < 256 ^ t
      · rw [if_pos ⟨hs, h⟩, if_pos h]
      · rw [if_neg (fun h' => h h'.2), if_neg h])
    clear hs
    by_cases hfit : N < 256 ^ t
    · rw [if_pos hfit] at HP
      have hlen := Wire.be_length N t
      have HBE := Lib.hid (fun j h => be_at N t j h)
      rw [HP.out]
      have HL := Lib.hid hlen
      generalize hL : Wire.be N t = L at *
      have hp8 : t = 8 ∨ (t < 8 ∧ ∃ P : Nat, 256 ^ t = P ∧ N < P ∧ ∀ W, Calls Tryz.prog 186 #[.int .i64 (t : Int)] W fun e w' => e = .returned (.int .u64 (P : Int)) ∧ W = w') := by
        by_cases h : t = 8
        · exact .inl h
        · exact .inr ⟨by omega, _, rfl, hfit, fun W => rpower_any t (by omega) W⟩
      clear hfit hL hlen
      have hstart : ∃ W0, True := ⟨w, trivial⟩
      clear hstart
      go_enter Tryz.func145, Tryz.ntmps145
      rcases hp8 with h8 | ⟨h8, P, -, hNP, hpw⟩
      all_goals
        have h8' : t < 8 ∨ 8 ≤ t := by omega
        try (have h9 : 8 ≤ t := by omega
             clear h8)
        try have hPN : decide (P ≤ N) = false := by simpa using hNP
        try have hPN2 : ¬ (P ≤ N) := by omega
        try have hPN3 : (N : Int) < (P : Int) := by omega
        try have HPW := Lib.hid hpw
        try clear hpw
        clear h8'
        go_wp2_with (first
          | (go_at_call 185; refine (HM.out _).mono ?_; rintro e w' ⟨rfl, rfl⟩)
          | (go_at_call 186; refine (HPW.out _).mono ?_; rintro e w' ⟨rfl, rfl⟩))
      all_goals
        go_loopw [6, 7] (fun o i wr => RNum w t L o i wr)
          (fun _ i _ => (intOf i + 1).toNat)
        case atStart => exact ⟨0, t, by omega, .inl ⟨t - 1, by omega, by go_num⟩, Below.refl _ _, World.ownsRow_nil _ _ _ _⟩
        case round =>
          obtain ⟨j, m, hjm, hi, hbw, hown⟩ := hrel
          have HO := Lib.hid hown; clear hown
          have HBW := Lib.hid hbw; clear hbw
          rcases hi with ⟨m', rfl, rfl⟩ | ⟨rfl, rfl⟩
          · have HPW2 := Lib.hid (fun W => rpower_any m' (by omega) W)
            have hb := HBE.out j (by omega)
            rw [show t - 1 - j = m' from by omega] at hb
            have hpp : 0 < 256 ^ m' := Nat.pow_pos (by decide)
            have HT := Lib.hid (take_at hb)
            generalize 256 ^ m' = P2 at *
            have hQ := Nat.div_le_self N P2
            have hq : (N : Int) / (P2 : Int) = ((N / P2 : Nat) : Int) := by simp
            generalize N / P2 = Q at *
            have hQ' : (Q : Int) < 18446744073709551616 := by omega
            obtain ⟨y, hy⟩ : ∃ y, UInt8.ofNat (Q % 256) = y := ⟨_, rfl⟩
            have hto : (y.toNat : Int) = (Q : Int) % 256 := by rw [← hy, UInt8.toNat_ofNat']; omega
            rw [hy] at HT
            clear hy hb
            have hrb : ∀ W : World, BS (W.alloc (.cells #[.int .u8 (y.toNat : Int)] 5)) (.slice (some ⟨W.heap.size, 0, none⟩) 1 1) [y] := fun W => row_bytes W [y] 1 rfl (by decide)
            rw [hto] at hrb
            have HRB := Lib.hid hrb
            clear hrb hto
            go_wp2_with (first
              | (go_at_call 186; refine (HPW2.out _).mono ?_; rintro e w' ⟨rfl, rfl⟩)
              | (at_builtin; refine wpList_append_bytes rfl _ _ rfl w.heap.size _ _ _ rfl (HO.out.alloc _) _ [y] rfl (HRB.out _) ?c1 ?c2 ?_))
            case c1 => simp; omega
            case c2 => have := HBW.out.size; simp; omega
            intro v2 w2 hown2 hg2 hn2 hat2
            have HB2 := Lib.hid ((HBW.out.alloc HBW.out.size _).grown hg2 (by have := HBW.out.size; simp; omega) (fun q hq => (HO.out.lt q hq).1))
            have HO2 : Hid (w2.ownsRow w.heap.size 5 1 v2 (j + 1) (bytesV (L.take (j + 1)))) := Lib.hid (by rw [HT.out, bytesV_append]; exact hown2)
            clear hown2 hg2 hn2 hat2
            go_wp2
            go_roundw
            case rel =>
              have key : RNum w t L v2 (.int .i64 ((m' : Int) - 1)) w2 := by
                refine ⟨j + 1, m', by omega, ?_, HB2.out, HO2.out⟩
                cases m' with
                | zero => exact .inr ⟨rfl, by go_num⟩
                | succ r => exact .inl ⟨r, rfl, by go_num⟩
              first | exact key | exact ⟨_, _, _, _, _, _, _, _, _, _, _, _, _, _, _, key, rfl⟩
            case measure => simp [intOf]; try omega
          · obtain rfl : j = t := by omega
            have hown := HO.out
            rw [List.take_of_length_le (by have := HL.out; omega), ← HL.out] at hown
            have HF := Lib.hid hown
            clear hown
            go_wp2
            go_ret2
            exact ⟨_, rfl, HF.out, HBW.out⟩
    · rw [if_neg hfit] at HP
      rw [HP.out]
      have ht8 : t < 8 := by
        rcases Nat.lt_or_ge t 8 with h | h
        · exact h
        · have : t = 8 := by omega
          subst this
          exact absurd (by simpa using hN) hfit
      have HPW := Lib.hid (fun W => rpower_any t (by omega) W)
      generalize 256 ^ t = P at *
      go_enter Tryz.func145, Tryz.ntmps145
      go_wp2_with (first
        | (go_at_call 185; refine (HM.out _).mono ?_; rintro e w' ⟨rfl, rfl⟩)
        | (go_at_call 186; refine (HPW.out _).mono ?_; rintro e w' ⟨rfl, rfl⟩))
      go_ret2
      exact ⟨_, rfl, World.ownsRow_nil _ _ _ _, Below.refl _ _⟩
  · have HM := Lib.hid (rmaySize_any s)
    have hs' : Wire.maySize s = false := by simpa using hs
    rw [hs'] at HM
    have hp : pNum N s = none := by unfold pNum; rw [if_neg (fun h => hs h.1)]
    rw [hp]
    clear hs hs' hp
    go_enter Tryz.func145, Tryz.ntmps145
    go_wp2_with fail
    refine (HM.out _).mono ?_
    rintro e w1 ⟨rfl, rfl⟩
    go_wp2
    go_ret2
    exact ⟨_, rfl, World.ownsRow_nil _ _ _ _, Below.refl _ _⟩
end Go.Proofs.YtbmphlpmipkpcaaGreat
