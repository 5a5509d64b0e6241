/- Contracts of the wire reference: power, MaySize, Number, Blob. Contracts of the wire reference's Cut, TakeNumber and Take. -/
import Derived.Test.YtbmphlpmipkpcaaGreatRnm42
import Derived.Test.YtbmphlpmipkpcaaGreatRnm35
import Derived.Deep.QuietTactic
import Derived.BigQuiet

section
set_option linter.unusedVariables false
set_option linter.unusedSimpArgs false
namespace Go.Proofs.YtbmphlpmipkpcaaGreat
open Go.RowKit

set_option maxHeartbeats 400000 in
theorem rpower_any (n : Nat) (hn : n ≤ 7) (w : World) :
    Calls Tryz.prog 186 #[.int .i64 (n : Int)] w fun e w' => e = .returned (.int .u64 ((256 ^ n : Nat) : Int)) ∧ w = w' := by
  go_enter Tryz.func186, Tryz.ntmps186
  go_wp2
  go_loop [3, 4] (fun p i => ∃ (k P : Nat), k ≤ n ∧ i = .int .i64 k ∧ p = .int .u64 (P : Int) ∧ P = 256 ^ k) (fun _ i => n - (intOf i).toNat)
  case atStart => exact ⟨0, 1, Nat.zero_le _, rfl, rfl, rfl⟩
  case round =>
    obtain ⟨k, P, hk, rfl, rfl, hP⟩ := hrel
    have HP := Lib.hid hP; clear hP
    by_cases hlt : k < n
    · have hb : P * 256 ≤ 72057594037927936 := by
        have h1 : P * 256 = 256 ^ (k + 1) := by rw [HP.out, Nat.pow_succ]
        rw [h1]
        exact Nat.pow_le_pow_right (n := 256) (by decide) (show k + 1 ≤ 7 by omega)
      go_wp2
      go_round
      case rel => exact ⟨k + 1, P * 256, by omega, by go_num, by go_num, by rw [HP.out, Nat.pow_succ]⟩
      case measure => simp [intOf]; omega
    · obtain rfl : k = n := by omega
      go_wp2
      go_ret
      exact ⟨by have := HP.out; subst this; rfl, rfl⟩

set_option maxHeartbeats 400000 in
theorem rmaySize_any (s : Int) (w : World) :
    Calls Tryz.prog 185 #[.int .i64 s] w fun e w' => e = .returned (.bool (Wire.maySize s)) ∧ w = w' := by
  have HM : Hid (Wire.maySize s = (decide (s = 1) || decide (s = 2) || decide (s = 4) || decide (s = 8))) := Lib.hid rfl
  go_enter Tryz.func185, Tryz.ntmps185
  go_wp2
  all_goals
    go_ret
    exact ⟨ret_boolW (by rw [HM.out, Bool.eq_iff_iff]; simp_all), rfl⟩

theorem ret_intW {k : IntKind} {a b : Int} (h : a = b) : Ending.returned (.int k a) = .returned (.int k b) := by rw [h]
/-- a number's bytes; none: it has no room -/
def pNum (N : Nat) (s : Int) : Option (List UInt8) := if Wire.maySize s = true ∧ N < 256 ^ s.toNat then some (Wire.be N s.toNat) else none
def pGet (o : Option (List UInt8)) : List UInt8 := o.getD []

theorem be_at (N s j : Nat) (h : j < s) : (Wire.be N s)[j]? = some (UInt8.ofNat (N / 256 ^ (s - 1 - j) % 256)) := by
  have h1 : s = j + (s - j) := by omega
  have h2 := Wire.be_drop N j (s - j)
  rw [← h1] at h2
  have h3 : (Wire.be N s)[j]? = ((Wire.be N s).drop j)[0]? := by rw [List.getElem?_drop]; rfl
  rw [h3, h2, show s - j = (s - 1 - j) + 1 from by omega, Wire.be_cons]
  rfl

def RNum (w : World) (t : Nat) (L : List UInt8) (o i : Value) (wr : World) : Prop :=
  ∃ j m : Nat, j + m = t ∧ ((∃ m' : Nat, m = m' + 1 ∧ i = .int .i64 (m' : Int)) ∨ (m = 0 ∧ i = .int .i64 (-1))) ∧ Below w.heap.size w wr ∧ wr.ownsRow w.heap.size 5 1 o j (bytesV (L.take j))

set_option maxRecDepth 4000 in
set_option maxHeartbeats 1000000 in
theorem rNumber_any (N : Nat) (hN : N < 18446744073709551616) (s : Int) (w : World) :
    Calls Tryz.prog 145 #[.int .u64 (N : Int), .int .i64 s] w fun e w' => ∃ v, e = .returned (.tuple #[v, .bool (pNum N s).isSome]) ∧ w'.ownsRow w.heap.size 5 1 v (pGet (pNum N s)).length (bytesV (pGet (pNum N s))) ∧ Below w.heap.size w w' := by
  by_cases hs : Wire.maySize s = true
  · obtain ⟨t, rfl, ht, ht8⟩ : ∃ t : Nat, s = (t : Int) ∧ (t = 1 ∨ t = 2 ∨ t = 4 ∨ t = 8) ∧ t ≤ 8 := by
      unfold Wire.maySize at hs
      simp only [Bool.or_eq_true, decide_eq_true_eq] at hs
      rcases hs with ((h | h) | h) | h
      · exact ⟨1, h, by omega, by omega⟩
      · exact ⟨2, h, by omega, by omega⟩
      · exact ⟨4, h, by omega, by omega⟩
      · exact ⟨8, h, by omega, by omega⟩
    have HM := Lib.hid (rmaySize_any (t : Int))
    rw [hs] at HM
    have HP : Hid (pNum N (t : Int) = if N < 256 ^ t then some (Wire.be N t) else none) := Lib.hid (by
      unfold pNum
      rw [Int.toNat_natCast]
      by_cases h : N < 256 ^ t
      · rw [if_pos ⟨hs, h⟩, if_pos h]
      · rw [if_neg (fun h' => h h'.2), if_neg h])
    clear hs
    by_cases hfit : N < 256 ^ t
    · rw [if_pos hfit] at HP
      have hlen := Wire.be_length N t
      have HBE := Lib.hid (fun j h => be_at N t j h)
      rw [HP.out]
      have HL := Lib.hid hlen
      generalize hL : Wire.be N t = L at *
      have hp8 : t = 8 ∨ (t < 8 ∧ ∃ P : Nat, 256 ^ t = P ∧ N < P ∧ ∀ W, Calls Tryz.prog 186 #[.int .i64 (t : Int)] W fun e w' => e = .returned (.int .u64 (P : Int)) ∧ W = w') := by
        by_cases h : t = 8
        · exact .inl h
        · exact .inr ⟨by omega, _, rfl, hfit, fun W => rpower_any t (by omega) W⟩
      clear hfit hL hlen
      have hstart : ∃ W0, True := ⟨w, trivial⟩
      clear hstart
      go_enter Tryz.func145, Tryz.ntmps145
      rcases hp8 with h8 | ⟨h8, P, -, hNP, hpw⟩
      all_goals
        have h8' : t < 8 ∨ 8 ≤ t := by omega
        try (have h9 : 8 ≤ t := by omega
             clear h8)
        try have hPN : decide (P ≤ N) = false := by simpa using hNP
        try have hPN2 : ¬ (P ≤ N) := by omega
        try have hPN3 : (N : Int) < (P : Int) := by omega
        try have HPW := Lib.hid hpw
        try clear hpw
        clear h8'
        go_wp2_with (first
          | (go_at_call 185; refine (HM.out _).mono ?_; rintro e w' ⟨rfl, rfl⟩)
          | (go_at_call 186; refine (HPW.out _).mono ?_; rintro e w' ⟨rfl, rfl⟩))
      all_goals
        go_loopw [6, 7] (fun o i wr => RNum w t L o i wr)
          (fun _ i _ => (intOf i + 1).toNat)
        case atStart => exact ⟨0, t, by omega, .inl ⟨t - 1, by omega, by go_num⟩, Below.refl _ _, World.ownsRow_nil _ _ _ _⟩
        case round =>
          obtain ⟨j, m, hjm, hi, hbw, hown⟩ := hrel
          have HO := Lib.hid hown; clear hown
          have HBW := Lib.hid hbw; clear hbw
          rcases hi with ⟨m', rfl, rfl⟩ | ⟨rfl, rfl⟩
          · have HPW2 := Lib.hid (fun W => rpower_any m' (by omega) W)
            have hb := HBE.out j (by omega)
            rw [show t - 1 - j = m' from by omega] at hb
            have hpp : 0 < 256 ^ m' := Nat.pow_pos (by decide)
            have HT := Lib.hid (take_at hb)
            generalize 256 ^ m' = P2 at *
            have hQ := Nat.div_le_self N P2
            have hq : (N : Int) / (P2 : Int) = ((N / P2 : Nat) : Int) := by simp
            generalize N / P2 = Q at *
            have hQ' : (Q : Int) < 18446744073709551616 := by omega
            obtain ⟨y, hy⟩ : ∃ y, UInt8.ofNat (Q % 256) = y := ⟨_, rfl⟩
            have hto : (y.toNat : Int) = (Q : Int) % 256 := by rw [← hy, UInt8.toNat_ofNat']; omega
            rw [hy] at HT
            clear hy hb
            have hrb : ∀ W : World, BS (W.alloc (.cells #[.int .u8 (y.toNat : Int)] 5)) (.slice (some ⟨W.heap.size, 0, none⟩) 1 1) [y] := fun W => row_bytes W [y] 1 rfl (by decide)
            rw [hto] at hrb
            have HRB := Lib.hid hrb
            clear hrb hto
            go_wp2_with (first
              | (go_at_call 186; refine (HPW2.out _).mono ?_; rintro e w' ⟨rfl, rfl⟩)
              | (at_builtin; refine wpList_append_bytes rfl _ _ rfl w.heap.size _ _ _ rfl (HO.out.alloc _) _ [y] rfl (HRB.out _) ?c1 ?c2 ?_))
            case c1 => simp; omega
            case c2 => have := HBW.out.size; simp; omega
            intro v2 w2 hown2 hg2 hn2 hat2
            have HB2 := Lib.hid ((HBW.out.alloc HBW.out.size _).grown hg2 (by have := HBW.out.size; simp; omega) (fun q hq => (HO.out.lt q hq).1))
            have HO2 : Hid (w2.ownsRow w.heap.size 5 1 v2 (j + 1) (bytesV (L.take (j + 1)))) := Lib.hid (by rw [HT.out, bytesV_append]; exact hown2)
            clear hown2 hg2 hn2 hat2
            go_wp2
            go_roundw
            case rel =>
              have key : RNum w t L v2 (.int .i64 ((m' : Int) - 1)) w2 := by
                refine ⟨j + 1, m', by omega, ?_, HB2.out, HO2.out⟩
                cases m' with
                | zero => exact .inr ⟨rfl, by go_num⟩
                | succ r => exact .inl ⟨r, rfl, by go_num⟩
              first | exact key | exact ⟨_, _, _, _, _, _, _, _, _, _, _, _, _, _, _, key, rfl⟩
            case measure => simp [intOf]; try omega
          · obtain rfl : j = t := by omega
            have hown := HO.out
            rw [List.take_of_length_le (by have := HL.out; omega), ← HL.out] at hown
            have HF := Lib.hid hown
            clear hown
            go_wp2
            go_ret2
            exact ⟨_, rfl, HF.out, HBW.out⟩
    · rw [if_neg hfit] at HP
      rw [HP.out]
      have ht8 : t < 8 := by
        rcases Nat.lt_or_ge t 8 with h | h
        · exact h
        · have : t = 8 := by omega
          subst this
          exact absurd (by simpa using hN) hfit
      have HPW := Lib.hid (fun W => rpower_any t (by omega) W)
      generalize 256 ^ t = P at *
      go_enter Tryz.func145, Tryz.ntmps145
      go_wp2_with (first
        | (go_at_call 185; refine (HM.out _).mono ?_; rintro e w' ⟨rfl, rfl⟩)
        | (go_at_call 186; refine (HPW.out _).mono ?_; rintro e w' ⟨rfl, rfl⟩))
      go_ret2
      exact ⟨_, rfl, World.ownsRow_nil _ _ _ _, Below.refl _ _⟩
  · have HM := Lib.hid (rmaySize_any s)
    have hs' : Wire.maySize s = false := by simpa using hs
    rw [hs'] at HM
    have hp : pNum N s = none := by unfold pNum; rw [if_neg (fun h => hs h.1)]
    rw [hp]
    clear hs hs' hp
    go_enter Tryz.func145, Tryz.ntmps145
    go_wp2_with fail
    refine (HM.out _).mono ?_
    rintro e w1 ⟨rfl, rfl⟩
    go_wp2
    go_ret2
    exact ⟨_, rfl, World.ownsRow_nil _ _ _ _, Below.refl _ _⟩
end Go.Proofs.YtbmphlpmipkpcaaGreat
end

section
set_option linter.unusedVariables false
set_option linter.unusedSimpArgs false
namespace Go.Proofs.YtbmphlpmipkpcaaGreat
open Go.RowKit

theorem BS.head {w : World} {p : Option Addr} {n cap k : Nat} {l : List UInt8} (h : BS w (.slice p n cap) l) (hk : k ≤ l.length) : BS w (.slice p k cap) (l.take k) := by
  obtain ⟨p', cap', e, h1, h2, h3⟩ := h
  injection e with e1 e2 e3
  subst e1; subst e3
  have hl : (l.take k).length = k := by rw [List.length_take]; omega
  refine ⟨_, _, by rw [hl], by omega, h2, fun hne => ?_⟩
  obtain ⟨b, o, e, hb, hc⟩ := h3 (fun h => hne (by rw [h]; simp))
  refine ⟨b, o, e, hb, fun i x hx => hc i x ?_⟩
  have hi : i < k := by have := (List.getElem?_eq_some_iff.1 hx).1; omega
  rwa [List.getElem?_take_of_lt hi] at hx
theorem BS.bounds' {w : World} {q : Option Addr} {n cap : Nat} {l : List UInt8} (h : BS w (.slice q n cap) l) : n = l.length ∧ n ≤ cap ∧ cap ≤ maxLen := by
  obtain ⟨p', cap', e, h1, h2, h3⟩ := h
  injection e with e1 e2 e3
  subst e1; subst e3
  exact ⟨e2, by omega, h2⟩
theorem BS.drewN' {w : World} {v : Value} {l : List UInt8} (h : BS w v l) (n : Nat) : BS (w.drewN n) v l := h.below (below_drewN w n)
/-- where a slice's tail lies -/
def tailAt (p : Option Addr) (cap k : Nat) : Option Addr := if cap - k = 0 then p.map fun a => a else p.map fun a => a.add k
theorem BS.tail {w : World} {p : Option Addr} {n cap k : Nat} {l : List UInt8} (h : BS w (.slice p n cap) l) (hk : k ≤ l.length) : BS w (.slice (tailAt p cap k) (n - k) (cap - k)) (l.drop k) := by
  obtain ⟨p', cap', e, h1, h2, h3⟩ := h
  injection e with e1 e2 e3
  subst e1; subst e3; subst e2
  have hl : (l.drop k).length = l.length - k := by rw [List.length_drop]
  refine ⟨_, _, by rw [hl], by omega, by omega, fun hne => ?_⟩
  have hlt : k < l.length := by
    rcases Nat.lt_or_ge k l.length with h | h
    · exact h
    · exact absurd (List.drop_of_length_le h) hne
  obtain ⟨b, o, rfl, hb, hc⟩ := h3 (fun h => by rw [h] at hlt; simp at hlt)
  refine ⟨b, o + k, ?_, hb, fun i x hx => ?_⟩
  · unfold tailAt
    rw [if_neg (by omega), Option.map_some, Go.WideShapes.add_plain]
  · rw [List.getElem?_drop] at hx
    rw [Nat.add_assoc]
    exact hc (k + i) x hx
theorem run_head' (q : Option Addr) (n cap k : Nat) (h : k ≤ cap) (W : World) : (Instr.slice 47 (.slice q n cap) none (some (.int .i64 (k : Int))) none).run Tryz.prog W = .ok (.slice q k cap) W := by
  have ht : Tryz.prog.underlying 47 = some (.slice (Tryz.prog.elem 47)) := by kernel_rfl
  have hz : ∀ W : World, (sizeOf (Tryz.prog.elem 47)).run Tryz.prog W = .ok 1 W := fun W => by
    rw [show Tryz.prog.elem 47 = 5 from by kernel_rfl]; simp [go_sem]
  rw [run_slice_h W _ _ _ _ ht _ _ (by omega) (by omega), hz]
  cases q <;> simp [sliced, Result.andThen, Addr.add]
theorem run_tail (q : Option Addr) (n cap k : Nat) (h : k ≤ n) (h2 : n ≤ cap) (W : World) : (Instr.slice 47 (.slice q n cap) (some (.int .i64 (k : Int))) none none).run Tryz.prog W = .ok (.slice (tailAt q cap k) (n - k) (cap - k)) W := by
  have ht : Tryz.prog.underlying 47 = some (.slice (Tryz.prog.elem 47)) := by kernel_rfl
  have hz : ∀ W : World, (sizeOf (Tryz.prog.elem 47)).run Tryz.prog W = .ok 1 W := fun W => by
    rw [show Tryz.prog.elem 47 = 5 from by kernel_rfl]; simp [go_sem]
  rw [run_slice_l W _ _ _ _ ht _ _ (by omega) (by omega), hz]
  unfold tailAt
  by_cases hc : cap - k = 0
  · cases q <;> simp [sliced, Result.andThen, hc]
    intro h; omega
  · cases q <;> simp [sliced, Result.andThen, hc]
    intro h; omega

def tCut (b : List UInt8) (n : Int) : Option (List UInt8 × List UInt8) := if 0 ≤ n ∧ n ≤ b.length then some (b.take n.toNat, b.drop n.toNat) else none
def cutX (b : List UInt8) (n : Int) : List UInt8 := ((tCut b n).map Prod.fst).getD []
def cutY (b : List UInt8) (n : Int) : List UInt8 := ((tCut b n).map Prod.snd).getD []

set_option maxRecDepth 4000 in
set_option maxHeartbeats 1000000 in
theorem rCut_any (v : Value) (b : List UInt8) (n : Int) (w : World) (hv : BS w v b) :
    Calls Tryz.prog 120 #[v, .int .i64 n] w fun e w' => ∃ x y, e = .returned (.tuple #[x, y, .bool (tCut b n).isSome]) ∧ (∀ w0, BS w0 v b → BS w0 x (cutX b n) ∧ BS w0 y (cutY b n)) ∧ ∃ nd, w' = w.drewN nd := by
  have HV := Lib.hid hv
  by_cases hf : 0 ≤ n ∧ n ≤ b.length
  · obtain ⟨k, rfl⟩ := Int.eq_ofNat_of_zero_le hf.1
    have hk : k ≤ b.length := by omega
    have HT : Hid (tCut b (k : Int) = some (b.take k, b.drop k)) := Lib.hid (by unfold tCut; rw [if_pos hf, Int.toNat_natCast])
    have HXY : Hid (cutX b (k : Int) = b.take k ∧ cutY b (k : Int) = b.drop k) := Lib.hid (by unfold cutX cutY; rw [HT.out]; exact ⟨rfl, rfl⟩)
    rw [HT.out, HXY.out.1, HXY.out.2]
    obtain ⟨p, cap, rfl, g1, g2, -⟩ := hv
    have HXY2 := Lib.hid (fun w0 (h0 : BS w0 (.slice p b.length cap) b) => (⟨h0.head hk, h0.tail hk⟩ : BS w0 _ _ ∧ BS w0 _ _))
    have f1 := run_head' p b.length cap k (by omega)
    have f2 := run_tail p b.length cap k hk g1
    unfold maxLen at g2
    rw [show (some (b.take k, b.drop k)).isSome = true from rfl]
    clear HT HXY hf
    generalize tailAt p cap k = q at *
    generalize b.length = m at *
    go_enter Tryz.func120, Tryz.ntmps120
    go_wp2_with fail
    go_quiet (fail)
    go_wp2
    go_ret3
    exact ⟨_, _, rfl, HXY2.out, _, rfl⟩
  · have HT : Hid (tCut b n = none) := Lib.hid (if_neg hf)
    have HXY : Hid (cutX b n = [] ∧ cutY b n = []) := Lib.hid (by unfold cutX cutY; rw [HT.out]; exact ⟨rfl, rfl⟩)
    rw [HT.out, HXY.out.1, HXY.out.2]
    obtain ⟨p, cap, rfl, g1, g2, -⟩ := hv
    unfold maxLen at g2
    rw [show (none : Option (List UInt8 × List UInt8)).isSome = false from rfl]
    clear HT HXY
    generalize b.length = m at *
    by_cases h0 : n < 0
    · go_enter Tryz.func120, Tryz.ntmps120
      go_wp2
      go_ret3
      exact ⟨_, _, rfl, fun _ _ => ⟨BS.nil _, BS.nil _⟩, 0, rfl⟩
    · have h1 : (m : Int) < n := by omega
      go_enter Tryz.func120, Tryz.ntmps120
      go_wp2
      go_ret3
      exact ⟨_, _, rfl, fun _ _ => ⟨BS.nil _, BS.nil _⟩, 0, rfl⟩

theorem maySize_rSize (s : Int) : Wire.maySize s = rSize s := by
  unfold Wire.maySize rSize
  rw [Bool.eq_iff_iff]; simp
/-- a number that is taken off *-/
def tNum (b : List UInt8) (s : Int) : Option (Nat × List UInt8) := if rSize s then (tCut b s).map fun p => (beVal p.1, p.2) else none
def numV (b : List UInt8) (s : Int) : Nat := ((tNum b s).map Prod.fst).getD 0
def numR (b : List UInt8) (s : Int) : List UInt8 := ((tNum b s).map Prod.snd).getD []
theorem rNum_t (l : List UInt8) (s : Int) : rNumS (some l) s = (tNum l s).map Prod.snd ∧ rNumV (some l) s = numV l s := by
  unfold rNumS rNumV numV tNum rBy rTake rRest tCut
  by_cases h : rSize s = true
  · by_cases h2 : 0 ≤ s ∧ s ≤ l.length
    · simp [h, h2]
    · simp [h, h2]; rfl
  · simp [h]
theorem sum_step (x : List UInt8) (k i : Nat) (c : UInt8) (hk : k ≤ 8) (hx : x.length = k) (h : x[i]? = some c) :
    c.toNat * 256 ^ (k - 1 - i) < 18446744073709551616 ∧ beVal (x.take i) * 256 ^ (k - i) + c.toNat * 256 ^ (k - 1 - i) = beVal (x.take (i + 1)) * 256 ^ (k - (i + 1)) ∧ beVal (x.take (i + 1)) * 256 ^ (k - (i + 1)) < 18446744073709551616 := by
  have hi := (List.getElem?_eq_some_iff.1 h).1
  have h1 : beVal (x.take (i + 1)) = beVal (x.take i) * 256 + c.toNat := (beVal_step h (by omega)).2
  have h2 : k - 1 - i = k - (i + 1) := by omega
  have h3 : k - i = (k - (i + 1)) + 1 := by omega
  have h4 := beVal_lt (i + 1) (x.take (i + 1)) (by rw [List.length_take]; omega)
  have h5 : beVal (x.take (i + 1)) * 256 ^ (k - (i + 1)) < 18446744073709551616 := by
    have h6 : beVal (x.take (i + 1)) * 256 ^ (k - (i + 1)) < 256 ^ (i + 1) * 256 ^ (k - (i + 1)) := Nat.mul_lt_mul_of_pos_right h4 (Nat.pow_pos (by decide))
    rw [← Nat.pow_add] at h6
    have h7 : 256 ^ (i + 1 + (k - (i + 1))) ≤ 256 ^ 8 := Nat.pow_le_pow_right (by decide) (by omega)
    exact Nat.lt_of_lt_of_le h6 h7
  have h8 : beVal (x.take i) * 256 ^ (k - i) + c.toNat * 256 ^ (k - 1 - i) = beVal (x.take (i + 1)) * 256 ^ (k - (i + 1)) := by
    rw [h1, h2, h3, Nat.pow_succ, Nat.add_mul, Nat.mul_assoc, Nat.mul_comm 256]
  exact ⟨by omega, h8, h5⟩

set_option maxRecDepth 4000 in
set_option maxHeartbeats 1000000 in
theorem rTakeNumber_any (v : Value) (b : List UInt8) (s : Int) (w : World) (hv : BS w v b) :
    Calls Tryz.prog 119 #[v, .int .i64 s] w fun e w' => ∃ y, e = .returned (.tuple #[.int .u64 (numV b s : Int), y, .bool (tNum b s).isSome]) ∧ (∀ w0, BS w0 v b → BS w0 y (numR b s)) ∧ ∃ nd, w' = w.drewN nd := by
  have HM := Lib.hid (rmaySize_any s)
  rw [maySize_rSize] at HM
  have HCU := Lib.hid (rCut_any v b s w hv)
  have HVV := Lib.hid hv
  obtain ⟨p, cap, rfl, -, -, -⟩ := hv
  generalize b.length = m at *
  by_cases hs : rSize s = true
  · have h2 : ∃ k : Nat, 1 ≤ k ∧ k ≤ 8 ∧ s = (k : Int) := by
      unfold rSize at hs
      simp only [Bool.or_eq_true, beq_iff_eq] at hs
      exact ⟨s.toNat, by omega, by omega, by omega⟩
    obtain ⟨k, k1, k8, rfl⟩ := h2
    rw [hs] at HM
    cases hc : tCut b (k : Int) with
    | none =>
      have HT : Hid (tNum b (k : Int) = none) := Lib.hid (by unfold tNum; rw [if_pos hs, hc]; rfl)
      have HV : Hid (numV b (k : Int) = 0 ∧ numR b (k : Int) = []) := Lib.hid (by unfold numV numR; rw [HT.out]; exact ⟨rfl, rfl⟩)
      rw [HT.out, HV.out.1, HV.out.2, show (none : Option (Nat × List UInt8)).isSome = false from rfl]
      rw [hc, show (none : Option (List UInt8 × List UInt8)).isSome = false from rfl] at HCU
      clear HT HV hc hs
      go_enter Tryz.func119, Tryz.ntmps119
      go_wp2_with fail
      refine (HM.out _).mono ?_
      rintro e w1 ⟨rfl, rfl⟩
      go_wp2_with fail
      refine HCU.out.mono ?_
      rintro e w2 ⟨x, y, rfl, hxy, nd, rfl⟩
      obtain ⟨⟨px, cx, rfl, -, -, -⟩, ⟨py, cy, rfl, -, -, -⟩⟩ := hxy w HVV.out
      clear hxy
      go_wp2
      go_ret3
      exact ⟨_, rfl, fun _ _ => BS.nil _, _, rfl⟩
    | some q =>
      have HX : Hid (cutX b (k : Int) = q.1 ∧ cutY b (k : Int) = q.2) := Lib.hid (by unfold cutX cutY; rw [hc]; exact ⟨rfl, rfl⟩)
      have HT : Hid (tNum b (k : Int) = some (beVal q.1, q.2)) := Lib.hid (by unfold tNum; rw [if_pos hs, hc]; rfl)
      have HV : Hid (numV b (k : Int) = beVal q.1 ∧ numR b (k : Int) = q.2) := Lib.hid (by unfold numV numR; rw [HT.out]; exact ⟨rfl, rfl⟩)
      have hlen : q.1.length = k := by
        unfold tCut at hc
        split at hc
        · injection hc with hc
          subst hc
          simp only [List.length_take]; omega
        · cases hc
      rw [HT.out, HV.out.1, HV.out.2, show (some (beVal q.1, q.2) : Option (Nat × List UInt8)).isSome = true from rfl]
      rw [hc, HX.out.1, HX.out.2, show (some q : Option (List UInt8 × List UInt8)).isSome = true from rfl] at HCU
      clear HT HV HX hc hs
      obtain ⟨xl, yl⟩ := q
      have HL := Lib.hid hlen
      dsimp only at HL HCU ⊢
      clear hlen
      go_enter Tryz.func119, Tryz.ntmps119
      go_wp2_with fail
      refine (HM.out _).mono ?_
      rintro e w1 ⟨rfl, rfl⟩
      go_wp2_with fail
      refine HCU.out.mono ?_
      rintro e w2 ⟨x, y, rfl, hxy, nd0, rfl⟩
      have HYB := Lib.hid (fun w0 h0 => (hxy w0 h0).2)
      obtain ⟨hx, hy⟩ := hxy w HVV.out
      clear hxy
      obtain ⟨py, cy, rfl, -, -, -⟩ := hy
      obtain ⟨px, cx, rfl, gx1, gx2, hxc⟩ := hx
      have HXC := Lib.hid hxc
      clear hxc
      rw [HL.out] at gx1 ⊢
      generalize yl.length = ny at *
      go_wp2_with fail
      go_loopw [10, 11] (fun a i wr => (∃ nd, wr = w.drewN nd) ∧ ∃ (j A : Nat), j ≤ k ∧ i = .int .i64 (j : Int) ∧ a = .int .u64 (A : Int) ∧ A = beVal (xl.take j) * 256 ^ (k - j)) (fun _ i _ => k - (intOf i).toNat)
      case atStart => exact ⟨⟨nd0, rfl⟩, 0, 0, Nat.zero_le _, rfl, rfl, by simp [beVal]⟩
      case round =>
        obtain ⟨⟨nd, hnd⟩, j, A, hj, rfl, rfl, hA⟩ := hrel
        have HA := Lib.hid hA
        have HND := Lib.hid hnd
        clear hA hnd
        by_cases hlt : j < k
        · obtain ⟨c, hc⟩ : ∃ c, xl[j]? = some c := ⟨_, List.getElem?_eq_getElem (by have := HL.out; omega)⟩
          obtain ⟨g, o, rfl, hg, hcell⟩ := HXC.out (by intro h; rw [h] at hc; simp at hc)
          have hcell := hcell j c hc
          obtain ⟨s1, s2, s3⟩ := sum_step xl k j c k8 HL.out hc
          rw [← HA.out] at s2
          have HB := Lib.hid s2
          have HPW := Lib.hid (fun W => rpower_any (k - 1 - j) (by omega) W)
          have hP1 : 0 < 256 ^ (k - 1 - j) := Nat.pow_pos (by decide)
          generalize 256 ^ (k - 1 - j) = P at *
          generalize hAA : beVal (xl.take (j + 1)) * 256 ^ (k - (j + 1)) = A2 at *
          have HA2 := Lib.hid hAA
          have hcc := c.toNat_lt
          generalize c.toNat = cc at *
          have hz : (cc : Int) * (P : Int) = ((cc * P : Nat) : Int) := by simp
          generalize cc * P = Q at *
          have z0 : ((k - 1 - j : Nat) : Int) = (k : Int) - 1 - (j : Int) := by omega
          rw [z0] at HPW
          clear hAA hc
          go_wp2_with fail
          have hcell : wr.cell? ⟨g, o + j, none⟩ = some (.int .u8 (cc : Int)) := by rw [HND.out]; exact hcell
          have z1 : IntKind.i64.wrap ((k : Int) - 1) = (k : Int) - 1 := by rw [IntKind.wrap_i64]; omega
          have z2 : IntKind.i64.wrap ((k : Int) - 1 - (j : Int)) = (k : Int) - 1 - (j : Int) := by rw [IntKind.wrap_i64]; omega
          have z3 : IntKind.u64.wrap (cc : Int) = (cc : Int) := by rw [IntKind.wrap_u64]; omega
          have z4 : IntKind.u64.wrap (Q : Int) = (Q : Int) := by rw [IntKind.wrap_u64]; omega
          have z5 : (cc : Int) * (P : Int) = (Q : Int) := hz
          have z6 : IntKind.u64.wrap ((A : Int) + (Q : Int)) = ((A2 : Nat) : Int) := by rw [IntKind.wrap_u64]; omega
          go_quiet ((go_at_call 186; exact (HPW.out _).mono (fun _ _ h => ⟨h.1, _, h.2.symm⟩)))
          go_wp2
          go_roundw
          case rel => exact ⟨⟨_, by rw [HND.out, World.drewN_drewN]⟩, j + 1, A2, by omega, by go_num, by go_num, HA2.out.symm⟩
          case measure => simp [intOf]; omega
        · obtain rfl : j = k := by omega
          have HAF : Hid (A = beVal xl) := Lib.hid (by rw [HA.out, List.take_of_length_le (by have := HL.out; omega)]; simp)
          rw [HAF.out]
          go_wp2
          go_ret3
          exact ⟨.slice py ny cy, rfl, HYB.out, nd, HND.out⟩
  · have HT : Hid (tNum b s = none) := Lib.hid (by unfold tNum; rw [if_neg hs])
    have HV : Hid (numV b s = 0 ∧ numR b s = []) := Lib.hid (by unfold numV numR; rw [HT.out]; exact ⟨rfl, rfl⟩)
    rw [HT.out, HV.out.1, HV.out.2, show (none : Option (Nat × List UInt8)).isSome = false from rfl]
    rw [show rSize s = false from by simpa using hs] at HM
    clear HT HV hs
    go_enter Tryz.func119, Tryz.ntmps119
    go_wp2_with fail
    refine (HM.out _).mono ?_
    rintro e w1 ⟨rfl, rfl⟩
    go_wp2
    go_ret3
    exact ⟨_, rfl, fun _ _ => BS.nil _, 0, rfl⟩
end Go.Proofs.YtbmphlpmipkpcaaGreat
end
