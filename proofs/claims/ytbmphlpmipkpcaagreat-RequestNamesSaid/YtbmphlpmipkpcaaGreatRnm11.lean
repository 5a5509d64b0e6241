/- Contracts of the library's bytes.Clone, bytes.Equal, slices.Grow and slices.Concat at bytes. Plain definitions and facts on numbers as bytes; no program in sight. Contracts of package wire's Writer. -/
import Derived.Test.YtbmphlpmipkpcaaGreatRnm1
import GoSem.Core.Value
import Derived.Test.YtbmphlpmipkpcaaGreatRnm6
import Derived.Deep.RegionHeld3
import Derived.Deep.RegionLaw
import Derived.Deep.RegionWith

section
set_option linter.unusedVariables false
set_option linter.unusedSimpArgs false
namespace Go.Proofs.YtbmphlpmipkpcaaGreat
open Go.RowKit

theorem nil_eq (w : World) (a : Option Addr) (n c n' c' : Nat) : (binOp .eql 47 (.slice a n c) (.slice none n' c')).run Tryz.prog w = .ok (.bool a.isNone) w := Lib.run_eql_slice_nil w _ _ a n c n' c' Tryz.underlying47
theorem own_of_row {w : World} {base e g : Nat} (hg : w.heap[g]? = some (.cells #[] e (0, 0))) (hb : base ≤ g) : w.ownsRow base e 1 (.slice (some ⟨g, 0, none⟩) 0 0) 0 [] :=
  ⟨rfl, .inr ⟨g, 0, #[], rfl, hb, hg, Nat.le_refl _, Nat.zero_le _, rfl, rfl⟩⟩

set_option maxRecDepth 4000 in
set_option maxHeartbeats 400000 in
theorem clone_any (v : Value) (l : List UInt8) (hl : l.length ≤ 1073741824) (w : World) (hv : BS w v l) :
    Calls Tryz.prog 111 #[v] w fun e w' => ∃ v', e = .returned v' ∧ w'.ownsRow w.heap.size 5 1 v' l.length (bytesV l) ∧ Below w.heap.size w w' := by
  have HV := Lib.hid hv
  obtain ⟨p, cap, rfl, h1, h2, h3⟩ := hv
  have hq := fun W => nil_eq W p l.length cap 0 0
  have H3 := Lib.hid h3; clear h3
  cases p with
  | none =>
    have hl0 : l = [] := by
      by_cases hl : l = []
      · exact hl
      · obtain ⟨b, o, h, _⟩ := H3.out hl; cases h
    subst hl0
    simp only [List.length_nil] at *
    go_enter Tryz.func111, Tryz.ntmps111
    go_wp2
    go_ret
    exact ⟨_, rfl, World.ownsRow_nil _ _ _ _, Below.refl _ _⟩
  | some ad =>
    generalize hn : l.length = n at *
    have HN := Lib.hid hn; clear hn
    go_enter Tryz.func111, Tryz.ntmps111
    go_wp2_with (at_builtin; refine wpList_append_bytes rfl _ _ rfl w.heap.size _ 0 [] rfl (own_of_row (new_rowW _ _ _ rfl) (Nat.le_refl _)) _ l rfl (HV.out.alloc _) (by have := HN.out; omega) (by simp) ?_; intro v1 w1 hown1 hg1 hn1 hat1)
    have HO : Hid (w1.ownsRow w.heap.size 5 1 v1 n (bytesV l)) := Lib.hid (by have := hown1; rw [Nat.zero_add, HN.out] at this; exact this)
    have HB : Hid (Below w.heap.size w w1) := Lib.hid (((Below.refl w.heap.size w).alloc (Nat.le_refl _) _).grown hg1 (by simp) (fun b hb => by injection hb with hb; simp at hb; omega))
    clear hown1 hg1 hn1 hat1
    go_wp2
    go_ret
    exact ⟨_, rfl, HO.out, HB.out⟩

set_option maxHeartbeats 400000 in
theorem equal_any (v v' : Value) (l l' : List UInt8) (w : World) (hv : BS w v l) (hv' : BS w v' l') :
    Calls Tryz.prog 142 #[v, v'] w fun e w' => e = .returned (.bool (decide (l = l'))) ∧ w = w' := by
  have h1 := hv.to_string
  have h2 := hv'.to_string
  have H : Hid ((((⟨l.toArray⟩ : ByteArray).toList == (⟨l'.toArray⟩ : ByteArray).toList)) = decide (l = l')) := Lib.hid (by
    rw [ByteArray.toList_eq, ByteArray.toList_eq, Bool.eq_iff_iff]; simp)
  obtain ⟨p, cap, rfl, g1, g2, g3⟩ := hv
  obtain ⟨p', cap', rfl, g1', g2', g3'⟩ := hv'
  clear g1 g2 g3 g1' g2' g3'
  generalize (⟨l.toArray⟩ : ByteArray) = S at *
  generalize (⟨l'.toArray⟩ : ByteArray) = S' at *
  go_enter Tryz.func142, Tryz.ntmps142
  go_wp2
  go_ret
  refine ⟨ret_boolW ?_, rfl⟩
  rw [← H.out]

set_option maxRecDepth 4000 in
set_option maxHeartbeats 400000 in
theorem grow_any (n : Nat) (hn : n ≤ 1099511627776) (w : World) :
    Calls Tryz.prog 191 #[.slice none 0 0, .int .i64 n] w fun e w' => ∃ v', e = .returned v' ∧ w'.ownsRow w.heap.size 5 1 v' 0 [] ∧ Below w.heap.size w w' := by
  by_cases h0 : n = 0
  · subst h0
    go_enter Tryz.func191, Tryz.ntmps191
    go_wp2
    go_ret
    exact ⟨_, rfl, World.ownsRow_nil _ _ _ _, Below.refl _ _⟩
  · obtain ⟨i0, hi0, hi1, hi2, hi3⟩ := byte_info
    have hr := fun ty => Lib.run_append_nil_zeros (P := Tryz.prog) w 47 3 ty _ i0 _ .i64 .i64 Tryz.underlying47 Tryz.underlying3 hi0 hi1 n (by omega) (by omega) (by omega) (by rw [hi3]; omega)
    have HR := Lib.hid hr; clear hr hi0 hi1 hi2 hi3
    have hgc : grownCap w n 0 5 ≤ maxLen := grownCap_le_maxLen w n 0 _ (by simp only [maxLen]; omega)
    have hgn : n ≤ grownCap w n 0 5 := grownCap_ge w n 0 _
    generalize grownCap w n 0 5 = c at *
    have hpos : 0 < n := by omega
    unfold maxLen at hgc
    go_enter Tryz.func191, Tryz.ntmps191
    go_wp2_with (at_builtin; refine Lib.wpList_append_run _ rfl _ _ _ _ rfl _ _ rfl rfl _ _ (HR.out _) ?_)
    go_ret
    refine ⟨_, rfl, ⟨rfl, .inr ⟨w.heap.size, c, _, rfl, Nat.le_refl _, new_rowW _ _ _ rfl, Nat.zero_le _, by simp only [maxLen]; omega, ?_, rfl⟩⟩, (Below.refl _ _).drew.alloc (by simp) _⟩
    simp [size_zeroCells, Value.cells]; omega
def PcS (w : World) (v : Value) (ps : List (List UInt8)) : Prop :=
  ∃ (p : Option Addr) (cap : Nat), v = .slice p ps.length cap ∧ ps.length ≤ cap ∧ cap ≤ maxLen ∧
    (ps ≠ [] → ∃ g o, p = some ⟨g, o, none⟩ ∧ ∀ i b, ps[i]? = some b → ∃ x, w.cell? ⟨g, o + i, none⟩ = some x ∧ BS w x b)
theorem PcS.below {w w' : World} {v : Value} {ps : List (List UInt8)} (h : PcS w v ps) (hb : Below w.heap.size w w') : PcS w' v ps := by
  obtain ⟨p, cap, h1, h2, h3, h4⟩ := h
  refine ⟨p, cap, h1, h2, h3, fun hl => ?_⟩
  obtain ⟨g, o, e, hc⟩ := h4 hl
  refine ⟨g, o, e, fun i b hi => ?_⟩
  obtain ⟨x, hx, hbs⟩ := hc i b hi
  exact ⟨x, (hb.cell (p := ⟨g, o + i, none⟩) (cell_blockW hx)).trans hx, hbs.below hb⟩
theorem take_at {α : Type} {l : List α} {k : Nat} {x : α} (h : l[k]? = some x) : l.take (k + 1) = l.take k ++ [x] := by
  obtain ⟨hk, hx⟩ := List.getElem?_eq_some_iff.1 h
  rw [List.take_add_one, h]
  rfl

set_option maxRecDepth 4000 in
set_option maxHeartbeats 1000000 in
theorem concat_any (v : Value) (ps : List (List UInt8)) (hl : ps.flatten.length ≤ 1073741824) (w : World) (hv : PcS w v ps) :
    Calls Tryz.prog 144 #[v] w fun e w' => ∃ v', e = .returned v' ∧ w'.ownsRow w.heap.size 5 1 v' ps.flatten.length (bytesV ps.flatten) ∧ Below w.heap.size w w' := by
  obtain ⟨p, cap, rfl, h1, h2, h3⟩ := hv
  generalize hn : ps.length = n at *
  have HN := Lib.hid hn; clear hn
  have H3 := Lib.hid h3; clear h3
  have HT : Hid (∀ k b, ps[k]? = some b → (ps.take (k + 1)).flatten = (ps.take k).flatten ++ b ∧ (ps.take k).flatten.length + b.length ≤ ps.flatten.length) := Lib.hid (fun k b hk => by
    have e : (ps.take (k + 1)).flatten = (ps.take k).flatten ++ b := by rw [take_at hk, List.flatten_append]; simp
    refine ⟨e, ?_⟩
    rw [← List.length_append, ← e]
    have := congrArg (fun l => (List.flatten l).length) (List.take_append_drop (k + 1) ps)
    simp only [List.flatten_append, List.length_append] at this
    omega)
  have HW : Hid ((ps.take n).flatten = ps.flatten) := Lib.hid (by rw [List.take_of_length_le (by have := HN.out; omega)])
  have HL := Lib.hid hl; clear hl
  unfold maxLen at h2
  go_enter Tryz.func144, Tryz.ntmps144
  go_wp2
  go_loop [3, 11] (fun s i => ∃ k : Nat, k ≤ n ∧ i = .int .i64 k ∧ s = .int .i64 (ps.take k).flatten.length) (fun _ i => n - (intOf i).toNat)
  case atStart => exact ⟨0, Nat.zero_le _, rfl, rfl⟩
  case round =>
    obtain ⟨k, hk, rfl, rfl⟩ := hrel
    by_cases hlt : k < n
    · obtain ⟨b, hb⟩ : ∃ b, ps[k]? = some b := ⟨_, List.getElem?_eq_getElem (by have := HN.out; omega)⟩
      obtain ⟨g, o, rfl, hc⟩ := H3.out (by intro h; subst h; simp at hb)
      obtain ⟨x, hx, hbs⟩ := hc k b hb
      obtain ⟨q, c', rfl, g1, g2, g3⟩ := hbs
      obtain ⟨e1, e2⟩ := HT.out k b hb
      have hle := Nat.le_trans e2 HL.out
      have E1 : Hid ((ps.take (k + 1)).flatten.length = (ps.take k).flatten.length + b.length) := Lib.hid (by rw [e1, List.length_append])
      generalize (ps.take k).flatten.length = m at *
      generalize b.length = j at *
      clear e1 e2 hb hc g3
      go_wp2
      go_round
      case rel => exact ⟨k + 1, by omega, by go_num, by rw [E1.out]; go_num⟩
      case measure => simp [intOf]; omega
    · obtain rfl : k = n := by omega
      have hle := HL.out
      rw [HW.out]
      generalize hm : ps.flatten.length = m at *
      have HM := Lib.hid hm; clear hm
      go_wp2_with fail
      refine (grow_any m (by omega) _).mono ?_
      rintro e w1 ⟨v1, rfl, hown1, hb1⟩
      have HO1 := Lib.hid hown1
      have HB1 := Lib.hid hb1
      clear hown1 hb1
      go_wp2_with fail
      go_loopw [6, 27] (fun v i wr => ∃ (j : Nat) (u : Value), j ≤ k ∧ v = u ∧ i = .int .i64 j ∧ Below w.heap.size w wr ∧ wr.ownsRow w.heap.size 5 1 u (ps.take j).flatten.length (bytesV (ps.take j).flatten)) (fun _ i _ => k - (intOf i).toNat)
      case atStart => exact ⟨0, _, Nat.zero_le _, rfl, rfl, HB1.out, HO1.out⟩
      case round =>
        obtain ⟨j, u, hj, rfl, rfl, hbw, hown⟩ := hrel
        have HO := Lib.hid hown; clear hown
        have HBW := Lib.hid hbw
        by_cases hjk : j < k
        · obtain ⟨b, hb⟩ : ∃ b, ps[j]? = some b := ⟨_, List.getElem?_eq_getElem (by have := HN.out; omega)⟩
          obtain ⟨g, o, rfl, hc⟩ := H3.out (by intro h; subst h; simp at hb)
          obtain ⟨x, hx, hbs⟩ := hc j b hb
          have hxr := (hbw.cell (p := ⟨g, o + j, none⟩) (cell_blockW hx)).trans hx
          have HX := Lib.hid (hbs.below hbw)
          obtain ⟨e1, e2⟩ := HT.out j b hb
          have hle2 := Nat.le_trans e2 hle
          have E1 := Lib.hid e1
          clear e1 e2 hb hc hbw hx hbs
          go_wp2_with (at_builtin; refine wpList_append_bytes rfl _ _ rfl w.heap.size _ _ _ rfl HO.out _ b rfl HX.out ?c1 HBW.out.size ?_)
          case c1 => omega
          intro v2 w2 hown2 hg2 hn2 hat2
          have HO2 : Hid (w2.ownsRow w.heap.size 5 1 v2 (ps.take (j + 1)).flatten.length (bytesV (ps.take (j + 1)).flatten)) := Lib.hid (by rw [E1.out, bytesV_append, List.length_append, List.length_flatten, List.map_take]; exact hown2)
          have HB2 := Lib.hid (HBW.out.grown hg2 HBW.out.size (fun q hq => (HO.out.lt q hq).1))
          clear hown2 hg2 hn2 hat2
          go_wp2
          go_roundw
          case rel => exact ⟨j + 1, _, by omega, rfl, by go_num, HB2.out, HO2.out⟩
          case measure => simp [intOf]; omega
        · obtain rfl : j = k := by omega
          have HF : Hid (wr.ownsRow w.heap.size 5 1 _ m (bytesV ps.flatten)) := Lib.hid (by have := HO.out; rw [HW.out, HM.out] at this; exact this)
          go_wp2
          go_ret
          exact ⟨_, rfl, by rw [HM.out]; exact HF.out, HBW.out⟩
end Go.Proofs.YtbmphlpmipkpcaaGreat
end

section
namespace Go.Proofs.YtbmphlpmipkpcaaGreat.Wire

/-- a number of a size: its highest byte first -/
def be : Nat → Nat → List UInt8
  | _, 0 => []
  | n, k + 1 => be (n / 256) k ++ [UInt8.ofNat (n % 256)]
def bstep (a : Nat) (c : UInt8) : Nat := 256 * a + c.toNat
/-- what bytes come to -/
def ofBe (l : List UInt8) : Nat := l.foldl bstep 0
def maySize (s : Int) : Bool := decide (s = 1) || decide (s = 2) || decide (s = 4) || decide (s = 8)

/-- A writer: what was put; none: it failed. -/
def wNum (st : Option (List UInt8)) (n : Nat) (s : Int) : Option (List UInt8) :=
  if maySize s = true ∧ n < 256 ^ s.toNat then st.map (· ++ be n s.toNat) else none
def wBytes (st : Option (List UInt8)) (b : List UInt8) : Option (List UInt8) := st.map (· ++ b)
def wBlob (st : Option (List UInt8)) (b : List UInt8) : Option (List UInt8) :=
  if b.length ≤ 16777216 then wBytes (wNum st b.length 4) b else none

theorem be_length (n k : Nat) : (be n k).length = k := by
  induction k generalizing n with
  | zero => rfl
  | succ k ih => simp [be, ih]
theorem ofBe_snoc (l : List UInt8) (c : UInt8) : ofBe (l ++ [c]) = 256 * ofBe l + c.toNat := by
  unfold ofBe; rw [List.foldl_append]; simp only [List.foldl_cons, List.foldl_nil, bstep]
theorem ofBe_be (n k : Nat) : ofBe (be n k) = n % 256 ^ k := by
  induction k generalizing n with
  | zero => simp [be, ofBe, Nat.mod_one]
  | succ k ih =>
    simp only [be]
    rw [ofBe_snoc, ih, Nat.pow_succ, Nat.mul_comm (256 ^ k) 256, Nat.mod_mul]
    have : (UInt8.ofNat (n % 256)).toNat = n % 256 := by rw [UInt8.toNat_ofNat']; omega
    rw [this]; omega
theorem snocRec {α : Type} {M : List α → Prop} (h0 : M []) (h1 : ∀ l c, M l → M (l ++ [c])) (l : List α) : M l := by
  have h : ∀ r : List α, M r.reverse := by
    intro r
    induction r with
    | nil => exact h0
    | cons c r ih => rw [List.reverse_cons]; exact h1 _ _ ih
  have := h l.reverse
  rwa [List.reverse_reverse] at this
theorem ofBe_lt (l : List UInt8) : ofBe l < 256 ^ l.length := by
  induction l using snocRec with
  | h0 => simp [ofBe]
  | h1 l c ih =>
    rw [ofBe_snoc, List.length_append, List.length_singleton, Nat.pow_succ]
    have := c.toNat_lt
    omega
theorem be_ofBe (l : List UInt8) : be (ofBe l) l.length = l := by
  induction l using snocRec with
  | h0 => rfl
  | h1 l c ih =>
    rw [List.length_append, List.length_singleton]
    show be (ofBe (l ++ [c]) / 256) l.length ++ [UInt8.ofNat (ofBe (l ++ [c]) % 256)] = _
    rw [ofBe_snoc]
    have hc := c.toNat_lt
    rw [show (256 * ofBe l + c.toNat) / 256 = ofBe l from by omega, ih, show (256 * ofBe l + c.toNat) % 256 = c.toNat from by omega]
    simp
theorem be_cons (n j : Nat) : be n (j + 1) = UInt8.ofNat (n / 256 ^ j % 256) :: be n j := by
  induction j generalizing n with
  | zero => simp [be]
  | succ j ih =>
    show be (n / 256) (j + 1) ++ [UInt8.ofNat (n % 256)] = _
    rw [ih]
    show UInt8.ofNat (n / 256 / 256 ^ j % 256) :: (be (n / 256) j ++ [UInt8.ofNat (n % 256)]) = _
    rw [Nat.div_div_eq_div_mul, Nat.pow_succ, Nat.mul_comm 256 (256 ^ j)]
    rfl
theorem be_drop (n s t : Nat) : (be n (s + t)).drop s = be n t := by
  induction s with
  | zero => simp
  | succ s ih => rw [show s + 1 + t = (s + t) + 1 from by omega, be_cons]; exact ih
theorem be_take (n s t : Nat) : (be n (s + t)).take s = be (n / 256 ^ t) s := by
  induction t generalizing n with
  | zero => rw [Nat.add_zero, List.take_of_length_le (by rw [be_length]; omega)]; simp
  | succ t ih =>
    show (be (n / 256) (s + t) ++ [UInt8.ofNat (n % 256)]).take s = _
    rw [List.take_append_of_le_length (by rw [be_length]; omega), ih, Nat.div_div_eq_div_mul, Nat.pow_succ, Nat.mul_comm 256]
theorem be_zero (s : Nat) : be 0 s = List.replicate s 0 := by
  induction s with
  | zero => rfl
  | succ s ih => show be (0 / 256) s ++ _ = _; rw [Nat.zero_div, ih, List.replicate_succ']; rfl
theorem be_inj {n s : Nat} (h : be n s = List.replicate s 0) : n % 256 ^ s = 0 := by
  have := congrArg ofBe h
  rw [ofBe_be, ← be_zero, ofBe_be] at this
  rw [this, Nat.zero_mod]
theorem ahead_zero {n s t : Nat} (hn : n < 256 ^ (s + t)) : decide ((be n (s + t)).take s = List.replicate s 0) = decide (n < 256 ^ t) := by
  rw [be_take, Bool.eq_iff_iff, decide_eq_true_eq, decide_eq_true_eq]
  have hp : 0 < 256 ^ t := Nat.pow_pos (by decide)
  have hlt : n / 256 ^ t < 256 ^ s := by rw [Nat.div_lt_iff_lt_mul hp, ← Nat.pow_add]; exact hn
  constructor
  · intro h
    have := be_inj h
    rw [Nat.mod_eq_of_lt hlt] at this
    rcases (Nat.div_eq_zero_iff.1 this) with h | h <;> omega
  · intro h
    rw [Nat.div_eq_of_lt h, be_zero]
end Go.Proofs.YtbmphlpmipkpcaaGreat.Wire
end

section
set_option linter.unusedVariables false
set_option linter.unusedSimpArgs false
namespace Go.Proofs.YtbmphlpmipkpcaaGreat
open Go.RowKit

/-- the types of the blocks that a writer's methods write -/
def WT : List TypeId := [138, 47]
/-- a writer at a block, of blocks of its own from base on, that has put st (none: it failed), in at most k pieces and bytes -/
def IsW (w : World) (base bw k : Nat) (st : Option (List UInt8)) : Prop :=
  base ≤ bw ∧ match st with
  | none => w.heap[bw]? = some (.cells #[.slice none 0 0, .int .i64 0, .bool true] 138 (0, 0))
  | some l => ∃ (pv : Value) (ps : List (List UInt8)) (vs : List Value), w.heap[bw]? = some (.cells #[pv, .int .i64 l.length, .bool false] 138 (0, 0)) ∧ ps.flatten = l ∧ vs.length = ps.length ∧ ps.length + l.length ≤ k ∧
      w.ownsRow base 47 1 pv vs.length vs ∧ ∀ (i : Nat) (x : Value) (b : List UInt8), vs[i]? = some x → ps[i]? = some b → w.ownsRow base 5 1 x b.length (bytesV b)
/-- what a writer's method leaves -/
def WStep (w w' : World) (base bw k : Nat) (st : Option (List UInt8)) : Prop := IsW w' base bw k st ∧ Below base w w' ∧ Kept WT w w'

set_option maxHeartbeats 400000 in
theorem wfail_any (base bw k : Nat) (st : Option (List UInt8)) (w : World) (h : IsW w base bw k st) :
    Calls Tryz.prog 143 #[.pointer (some ⟨bw, 0, none⟩)] w fun e w' => e = .returned (.pointer (some ⟨bw, 0, none⟩)) ∧ ∀ k', WStep w w' base bw k' none := by
  have hrow : ∃ c0 c1 c2, w.heap[bw]? = some (.cells #[c0, c1, c2] 138 (0, 0)) := by
    obtain ⟨_, h⟩ := h
    cases st with
    | none => exact ⟨_, _, _, h⟩
    | some l => obtain ⟨pv, ps, vs, h, _⟩ := h; exact ⟨_, _, _, h⟩
  have hb := Lib.hid h.1
  clear h
  obtain ⟨c0, c1, c2, hrow⟩ := hrow
  have HR := Lib.hid hrow
  have hc := fun j => cell_of_row w bw j _ _ _ hrow
  have hf := fun j => frozen_of_row w bw j _ _ hrow
  clear hrow
  go_enter Tryz.func143, Tryz.ntmps143
  go_wp2
  go_ret
  refine ⟨rfl, fun k' => ⟨⟨hb.out, ?_⟩, ?_, ?_⟩⟩
  · show (((w.setCell ⟨bw, 0, none⟩ _).setCell ⟨bw, 1, none⟩ _).setCell ⟨bw, 2, none⟩ _).heap[bw]? = _
    rw [heap_setCell_same _ _ _ _ _ _ (heap_setCell_same _ _ _ _ _ _ (heap_setCell_same _ _ _ _ _ _ HR.out))]
    rfl
  · exact (((Below.refl _ _).setCell hb.out _).setCell hb.out _).setCell hb.out _
  · exact (((Kept.refl _ _).setCell HR.out (by simp [WT]) _).setCell (heap_setCell_same _ _ _ _ _ _ HR.out) (by simp [WT]) _).setCell (heap_setCell_same _ _ _ _ _ _ (heap_setCell_same _ _ _ _ _ _ HR.out)) (by simp [WT]) _

theorem own_form {w : World} {base e n : Nat} {v : Value} {xs : List Value} (h : w.ownsRow base e 1 v n xs) : ∃ q c, v = .slice q n c := by
  rcases h.2 with ⟨rfl, rfl⟩ | ⟨g, cap, cur, rfl, _⟩
  · exact ⟨_, _, rfl⟩
  · exact ⟨_, _, rfl⟩
theorem own_below {w w' : World} {base e n : Nat} {v : Value} {xs : List Value} (h : w.ownsRow base e 1 v n xs) (hb : Below w.heap.size w w') : w'.ownsRow base e 1 v n xs := by
  obtain ⟨h1, h2⟩ := h
  refine ⟨h1, ?_⟩
  rcases h2 with h2 | ⟨g, cap, cur, e1, hg, hh, h3⟩
  · exact .inl h2
  · exact .inr ⟨g, cap, cur, e1, hg, (hb.block g (block_lt hh)).trans hh, h3⟩
theorem own_ne {w : World} {base e n g : Nat} {v : Value} {xs : List Value} {cs : Array Value} {t : TypeId} {fr : Nat × Nat} (h : w.ownsRow base e 1 v n xs) (hg : w.heap[g]? = some (.cells cs t fr)) (hne : e ≠ t) : some g ≠ v.ownBlock := by
  rcases h.2 with ⟨rfl, _⟩ | ⟨g', cap, cur, rfl, _, hh, _⟩
  · simp [Value.ownBlock]
  · intro he
    injection he with he
    simp at he
    subst he
    rw [hg] at hh
    injection hh with hh
    injection hh with _ ht
    exact hne ht.symm
theorem piece_info : ∃ i, Tryz.prog.info? 47 = some i ∧ i.zero = some (.slice none 0 0) ∧ i.size = 1 ∧ i.bytes = 24 := by
  have h : (Tryz.prog.info? 47).map (fun i => (i.zero, i.size, i.bytes)) = some (some (.slice none 0 0), 1, 24) := by kernel_rfl
  cases hi : Tryz.prog.info? 47 with
  | none => rw [hi] at h; cases h
  | some i =>
    rw [hi] at h
    injection h with h
    injection h with h1 h2
    injection h2 with h2 h3
    exact ⟨i, rfl, h1, h2, h3⟩
/-- 'append(v, u)' of one slice of bytes, in a region that draws its order -/
theorem step_append_piece {ops : Array Oper} {o : Oper} {a : Act} {K : Act → World → Prop} {Q : Exit → Act → World → Prop} {E : Prop} {w : World} (hgd : o.guard = none) (s x : Operand)
    (ho : o.op = .call { callee := .builtin .append, args := #[s, x], argTypes := #[136, 136] }) (base : Nat) (v : Value) (n : Nat) (xs : List Value) (hs : a.eval s = v) (hown : w.ownsRow base 47 1 v n xs)
    (g : Nat) (u : Value) (hx : a.eval x = .slice (some ⟨g, 0, none⟩) 1 1) (hg : w.heap[g]? = some (.cells #[u] 47 (0, 0))) (h1 : u.oneCell' = true) (hn : n + 1 ≤ 1099511627776) (hbase : base ≤ w.heap.size)
    (h : ∀ v' w', w'.ownsRow base 47 1 v' (n + 1) (xs ++ [u]) → w.grownBy w' v.ownBlock → (v'.ownBlock = v.ownBlock ∨ v'.ownBlock = some w.heap.size) → K (a.put o.dst v') w') :
    if Region.wanted o (yielded ops a.tmps) = true then Oper.wp Tryz.prog o a w K Q else E := by
  have hw : Region.wanted o (yielded ops a.tmps) = true := by simp [Region.wanted, hgd]
  rw [if_pos hw]
  obtain ⟨i0, hi0, hi1, hi2, hi3⟩ := piece_info
  obtain ⟨v', w', hr, g1, g2, _, g3⟩ := run_append_own_at (P := Tryz.prog) w base 136 o.type _ i0 _ 1 24 Tryz.underlying136 hi0 hi1 hi2 hi3 rfl (by decide) v n xs hown ⟨g, 0, none⟩ 1 1 [u] rfl (fun j y hj => by
      rw [Go.WideShapes.add_plain, cell_of_row w g _ _ _ _ hg]
      match j, hj with
      | 0, hj => simpa using hj) (fun y hy => by simp at hy; subst hy; exact h1) (by simp only [maxLen]; omega) (by omega) hbase
  exact Lib.wp_append_run w s x _ _ ho v _ hs hx v' w' hr (h v' w' g1 g2 g3)

theorem own_apart {w : World} {b1 b2 e1 e2 n1 n2 : Nat} {v1 v2 : Value} {xs1 xs2 : List Value} (h1 : w.ownsRow b1 e1 1 v1 n1 xs1) (h2 : w.ownsRow b2 e2 1 v2 n2 xs2) (hne : e1 ≠ e2) : v1.ownBlock = none ∨ v1.ownBlock ≠ v2.ownBlock := by
  rcases h1.2 with ⟨rfl, _⟩ | ⟨g, cap, cur, rfl, _, hh, _⟩
  · exact .inl rfl
  · exact .inr (own_ne h2 hh (fun e => hne e.symm))
theorem own_set {w : World} {base e n g : Nat} {v : Value} {xs : List Value} {cs : Array Value} {t : TypeId} {fr : Nat × Nat} (h : w.ownsRow base e 1 v n xs) (hg : w.heap[g]? = some (.cells cs t fr)) (hne : e ≠ t) (i : Nat) (u : Value) : (w.setCell ⟨g, i, none⟩ u).ownsRow base e 1 v n xs := by
  have hn := own_ne h hg hne
  obtain ⟨h1, h2⟩ := h
  refine ⟨h1, ?_⟩
  rcases h2 with h2 | ⟨g', cap, cur, rfl, hb, hh, h3⟩
  · exact .inl h2
  · exact .inr ⟨g', cap, cur, rfl, hb, (heap_setCell_other w ⟨g, i, none⟩ g' u (fun e => hn (by show some g = some g'; exact congrArg some e.symm))).trans hh, h3⟩
theorem own_more {w : World} {b b' e n : Nat} {v : Value} {xs : List Value} (h : w.ownsRow b e 1 v n xs) (hb : b' ≤ b) : w.ownsRow b' e 1 v n xs := by
  obtain ⟨h1, h2⟩ := h
  refine ⟨h1, ?_⟩
  rcases h2 with h2 | ⟨g', cap, cur, rfl, hg, h3⟩
  · exact .inl h2
  · exact .inr ⟨g', cap, cur, rfl, by omega, h3⟩
theorem kept_grown {T : List TypeId} {a w w' : World} (h : Kept T a w) {base e n : Nat} {v : Value} {xs : List Value} (hown : w.ownsRow base e 1 v n xs) (hg : w.grownBy w' v.ownBlock) (he : e ∈ T) : Kept T a w' :=
  h.trans ⟨hg.size, fun i cs t fr hi ht => (hg.block i (block_lt hi) (own_ne hown hi (fun e' => ht (e' ▸ he)))).trans hi⟩

theorem wbytes_close {base bw k : Nat} {l b : List UInt8} {w w1 w2 : World} {pv x v2 : Value} {ps : List (List UInt8)} {vs : List Value} (hb : base ≤ bw) (hfl : ps.flatten = l) (hvl : vs.length = ps.length) (hkl : ps.length + l.length ≤ k)
    (hown : w.ownsRow base 47 1 pv vs.length vs) (hpc : ∀ (i : Nat) (x : Value) (b : List UInt8), vs[i]? = some x → ps[i]? = some b → w.ownsRow base 5 1 x b.length (bytesV b))
    (hrow : w.heap[bw]? = some (.cells #[pv, .int .i64 l.length, .bool false] 138 (0, 0)))
    (hb1 : Below w.drew.heap.size w.drew w1) (hown1 : w1.ownsRow w.drew.heap.size 5 1 x b.length (bytesV b)) (hg2 : (w1.alloc (.cells #[x] 47)).grownBy w2 pv.ownBlock) (hown2 : w2.ownsRow base 47 1 v2 (vs.length + 1) (vs ++ [x]))
    (hne : some bw ≠ pv.ownBlock) : WStep w ((w2.setCell ⟨bw, 0, none⟩ v2).setCell ⟨bw, 1, none⟩ (.int .i64 ((l.length : Int) + (b.length : Int)))) base bw (k + 1 + b.length) (some (l ++ b)) := by
  have hn2 : bw < w.heap.size := block_lt hrow
  have hbs : base ≤ w.heap.size := by omega
  have hrow2 : w2.heap[bw]? = some (.cells #[pv, .int .i64 l.length, .bool false] 138 (0, 0)) := (hg2.block bw (by have := hb1.size; simp at this ⊢; omega) hne).trans (row_allocW ((hb1.block bw hn2).trans hrow) _)
  have hown1' : (w1.alloc (.cells #[x] 47)).ownsRow base 47 1 pv vs.length vs := (own_below hown.drew hb1).alloc _
  have key : ∀ (i : Nat) (y : Value) (c : List UInt8), (vs ++ [x])[i]? = some y → (ps ++ [b])[i]? = some c → w2.ownsRow base 5 1 y c.length (bytesV c) := by
    intro i y c hy hc
    have h1 : (w1.alloc (.cells #[x] 47)).ownsRow base 5 1 y c.length (bytesV c) := by
      rcases Nat.lt_or_ge i vs.length with hi | hi
      · rw [List.getElem?_append_left hi] at hy
        rw [List.getElem?_append_left (by omega)] at hc
        exact (own_below (hpc i y c hy hc).drew hb1).alloc _
      · rw [List.getElem?_append_right hi] at hy
        rw [List.getElem?_append_right (by omega)] at hc
        rw [← hvl] at hc
        cases hj : i - vs.length with
        | zero =>
          rw [hj] at hy hc
          simp at hy hc
          subst hy; subst hc
          exact (own_more hown1 (by simpa using hbs)).alloc _
        | succ j => rw [hj] at hy; simp at hy
    exact h1.kept hg2 (own_apart h1 hown1' (by decide))
  refine ⟨⟨hb, v2, ps ++ [b], vs ++ [x], ?_, by rw [List.flatten_append, hfl]; simp, by simp [hvl], by simp; omega, ?_, ?_⟩, ?_, ?_⟩
  · rw [heap_setCell_same _ _ _ _ _ _ (heap_setCell_same _ _ _ _ _ _ hrow2)]
    simp
  · rw [List.length_append]
    exact own_set (own_set hown2 hrow2 (by decide) _ _) (heap_setCell_same _ _ _ _ _ _ hrow2) (by decide) _ _
  · intro i y c hy hc
    exact own_set (own_set (key i y c hy hc) hrow2 (by decide) _ _) (heap_setCell_same _ _ _ _ _ _ hrow2) (by decide) _ _
  · have h0 : Below base w w1 := (Below.refl base w).drew.trans (hb1.mono (by simpa using hbs))
    have h1 := h0.alloc (Nat.le_trans hbs h0.size) (.cells #[x] 47)
    exact ((h1.grown hg2 (Nat.le_trans hbs h1.size) (fun q hq => (hown.lt q hq).1)).setCell hb _).setCell hb _
  · have h0 : Kept WT w w1 := (⟨Nat.le_refl _, fun _ _ _ _ h _ => h⟩ : Kept WT w w.drew).trans (.of_below hb1)
    have h1 := kept_grown (h0.alloc (.cells #[x] 47)) hown1' hg2 (by simp [WT])
    exact (h1.setCell hrow2 (by simp [WT]) _).setCell (heap_setCell_same _ _ _ _ _ _ hrow2) (by simp [WT]) _

set_option maxRecDepth 4000 in
set_option maxHeartbeats 1000000 in
theorem wbytes_some (base bw k : Nat) (l : List UInt8) (v : Value) (b : List UInt8) (hk : k + 1 + b.length ≤ 536870912) (w : World) (h : IsW w base bw k (some l)) (hv : BS w v b) :
    Calls Tryz.prog 90 #[.pointer (some ⟨bw, 0, none⟩), v] w fun e w' => e = .returned (.pointer (some ⟨bw, 0, none⟩)) ∧ WStep w w' base bw (k + 1 + b.length) (some (l ++ b)) := by
  obtain ⟨hb, pv, ps, vs, hrow, hfl, hvl, hkl, hown, hpc⟩ := h
  have HV := Lib.hid hv
  have HR := Lib.hid hrow
  have HB := Lib.hid hb
  have HF := Lib.hid hfl
  have HVL := Lib.hid hvl
  have HK := Lib.hid hkl
  have HO := Lib.hid hown
  have HP := Lib.hid hpc
  obtain ⟨p, cap, rfl, g1, g2, g3⟩ := hv
  unfold maxLen at g2
  have hc0 : w.cell? ⟨bw, 0, none⟩ = some pv := cell_of_row w bw 0 _ _ _ hrow
  have hc1 : w.cell? ⟨bw, 1, none⟩ = some (.int .i64 l.length) := cell_of_row w bw 1 _ _ _ hrow
  have hc2 : w.cell? ⟨bw, 2, none⟩ = some (.bool false) := cell_of_row w bw 2 _ _ _ hrow
  have hfr := fun j => frozen_of_row w bw j _ _ hrow
  have hl1 : (l.length : Int) + (b.length : Int) ≤ 536870912 := by omega
  have HBL := Lib.hid (show b.length ≤ 1073741824 by omega)
  clear hrow hfl hvl hkl hown hpc g3
  generalize hbn : b.length = n at *
  generalize hln : l.length = m at *
  have HBN := Lib.hid hbn; clear hbn
  have HLN := Lib.hid hln; clear hln
  go_enter Tryz.func90, Tryz.ntmps90
  go_wp2_with fail
  have hn2 : bw < w.heap.size := block_lt HR.out
  have HNE : Hid (some bw ≠ pv.ownBlock) := Lib.hid (own_ne HO.out HR.out (by decide))
  have hsum : IntKind.i64.wrap ((m : Int) + (n : Int)) = (m : Int) + (n : Int) := by rw [IntKind.wrap_i64]; omega
  have HVN : Hid (vs.length + 1 ≤ 1099511627776) := Lib.hid (by have := HVL.out; have := HK.out; omega)
  go_region_law (first
    | (go_simp; go_at_call 111; refine (clone_any _ b (by rw [HBN.out]; exact HBL.out) _ HV.out.drew).mono ?_; rintro e w1 ⟨v1, rfl, hown1, hb1⟩; obtain ⟨q1, c1, rfl⟩ := own_form hown1; have hcl0 := hb1.cell (p := ⟨bw, 0, none⟩) hn2; have hcl1 := hb1.cell (p := ⟨bw, 1, none⟩) hn2; have hz1 : bw < w1.heap.size := Nat.lt_of_lt_of_le hn2 hb1.size)
    | (refine step_append_piece rfl _ _ rfl base pv _ _ rfl ((own_below HO.out.drew hb1).alloc _) w1.heap.size _ rfl (new_rowW _ _ _ rfl) rfl HVN.out (by have := HB.out; simp; omega) ?_; intro v2 w2 hown2 hg2 hat2; obtain ⟨q2, c2, rfl⟩ := own_form hown2; have hd0 := hg2.cell ((World.cell?_alloc_lt _ _ ⟨bw, 0, none⟩ hz1).trans (hcl0.trans hc0)) HNE.out; have hd1 := hg2.cell ((World.cell?_alloc_lt _ _ ⟨bw, 1, none⟩ hz1).trans (hcl1.trans hc1)) HNE.out; have hrow2 := (hg2.block bw (by simp; omega) HNE.out).trans (row_allocW ((hb1.block bw hn2).trans HR.out) _); have HR2 := Lib.hid hrow2; have hfz := fun j => frozen_of_row w2 bw j _ _ hrow2; clear hrow2))
  all_goals
    have HC := Lib.hid (wbytes_close (b := b) HB.out HF.out HVL.out (by rw [HLN.out]; exact HK.out) HO.out HP.out (by rw [HLN.out]; exact HR.out) hb1 hown1 hg2 hown2 HNE.out)
    rw [HLN.out, HBN.out] at HC
    clear hown1 hb1 hg2 hown2 hat2 hcl0 hcl1
    go_wp2
    go_ret
    exact ⟨rfl, HC.out⟩
end Go.Proofs.YtbmphlpmipkpcaaGreat
end
