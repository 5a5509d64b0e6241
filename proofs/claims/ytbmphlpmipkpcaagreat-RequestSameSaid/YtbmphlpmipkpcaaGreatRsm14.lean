/- Contracts of the library's bytes.Clone, bytes.Equal, slices.Grow and slices.Concat at bytes. Plain definitions and facts on numbers as bytes; no program in sight. -/
import Derived.Test.YtbmphlpmipkpcaaGreatRsm2
import GoSem.Core.Value

section
set_option linter.unusedVariables false
set_option linter.unusedSimpArgs false
namespace Go.Proofs.YtbmphlpmipkpcaaGreat
open Go.RowKit

theorem nil_eq (w : World) (a : Option Addr) (n c n' c' : Nat) : (binOp .eql 47 (.slice a n c) (.slice none n' c')).run Tryz.prog w = .ok (.bool a.isNone) w := Lib.run_eql_slice_nil w _ _ a n c n' c' Tryz.underlying47
theorem own_of_row {w : World} {base e g : Nat} (hg : w.heap[g]? = some (.cells #[] e (0, 0))) (hb : base ≤ g) : w.ownsRow base e 1 (.slice (some ⟨g, 0, none⟩) 0 0) 0 [] :=
  ⟨rfl, .inr ⟨g, 0, #[], rfl, hb, hg, Nat.le_refl _, Nat.zero_le _, rfl, rfl⟩⟩

set_option maxRecDepth 4000 in
set_option maxHeartbeats 400000 in
theorem clone_any (v : Value) (l : List UInt8) (hl : l.length ≤ 1073741824) (w : World) (hv : BS w v l) :
    Calls Tryz.prog 111 #[v] w fun e w' => ∃ v', e = .returned v' ∧ w'.ownsRow w.heap.size 5 1 v' l.length (bytesV l) ∧ Below w.heap.size w w' := by
  have HV := Lib.hid hv
  obtain ⟨p, cap, rfl, h1, h2, h3⟩ := hv
  have hq := fun W => nil_eq W p l.length cap 0 0
  have H3 := Lib.hid h3; clear h3
  cases p with
  | none =>
    have hl0 : l = [] := by
      by_cases hl : l = []
      · exact hl
      · obtain ⟨b, o, h, _⟩ := H3.out hl; cases h
    subst hl0
    simp only [List.length_nil] at *
    go_enter Tryz.func111, Tryz.ntmps111
    go_wp2
    go_ret
    exact ⟨_, rfl, World.ownsRow_nil _ _ _ _, Below.refl _ _⟩
  | some ad =>
    generalize hn : l.length = n at *
    have HN := Lib.hid hn; clear hn
    go_enter Tryz.func111, Tryz.ntmps111
    go_wp2_with (at_builtin; refine wpList_append_bytes rfl _ _ rfl w.heap.size _ 0 [] rfl (own_of_row (new_rowW _ _ _ rfl) (Nat.le_refl _)) _ l rfl (HV.out.alloc _) (by have := HN.out; omega) (by simp) ?_; intro v1 w1 hown1 hg1 hn1 hat1)
    have HO : Hid (w1.ownsRow w.heap.size 5 1 v1 n (bytesV l)) := Lib.hid (by have := hown1; rw [Nat.zero_add, HN.out] at this; exact this)
    have HB : Hid (Below w.heap.size w w1) := Lib.hid (((Below.refl w.heap.size w).alloc (Nat.le_refl _) _).grown hg1 (by simp) (fun b hb => by injection hb with hb; simp at hb; omega))
    clear hown1 hg1 hn1 hat1
    go_wp2
    go_ret
    exact ⟨_, rfl, HO.out, HB.out⟩

set_option maxHeartbeats 400000 in
theorem equal_any (v v' : Value) (l l' : List UInt8) (w : World) (hv : BS w v l) (hv' : BS w v' l') :
    Calls Tryz.prog 142 #[v, v'] w fun e w' => e = .returned (.bool (decide (l = l'))) ∧ w = w' := by
  have h1 := hv.to_string
  have h2 := hv'.to_string
  have H : Hid ((((⟨l.toArray⟩ : ByteArray).toList == (⟨l'.toArray⟩ : ByteArray).toList)) = decide (l = l')) := Lib.hid (by
    rw [ByteArray.toList_eq, ByteArray.toList_eq, Bool.eq_iff_iff]; simp)
  obtain ⟨p, cap, rfl, g1, g2, g3⟩ := hv
  obtain ⟨p', cap', rfl, g1', g2', g3'⟩ := hv'
  clear g1 g2 g3 g1' g2' g3'
  generalize (⟨l.toArray⟩ : ByteArray) = S at *
  generalize (⟨l'.toArray⟩ : ByteArray) = S' at *
  go_enter Tryz.func142, Tryz.ntmps142
  go_wp2
  go_ret
  refine ⟨ret_boolW ?_, rfl⟩
  rw [← H.out]

set_option maxRecDepth 4000 in
set_option maxHeartbeats 400000 in
theorem grow_any (n : Nat) (hn : n ≤ 1099511627776) (w : World) :
    Calls Tryz.prog 191 #[.slice none 0 0, .int .i64 n] w fun e w' => ∃ v', e = .returned v' ∧ w'.ownsRow w.heap.size 5 1 v' 0 [] ∧ Below w.heap.size w w' := by
  by_cases h0 : n = 0
  · subst h0
    go_enter Tryz.func191, Tryz.ntmps191
    go_wp2
    go_ret
    exact ⟨_, rfl, World.ownsRow_nil _ _ _ _, Below.refl _ _⟩
  · obtain ⟨i0, hi0, hi1, hi2, hi3⟩ := byte_info
    have hr := fun ty => Lib.run_append_nil_zeros (P := Tryz.prog) w 47 3 ty _ i0 _ .i64 .i64 Tryz.underlying47 Tryz.underlying3 hi0 hi1 n (by omega) (by omega) (by omega) (by rw [hi3]; omega)
    have HR := Lib.hid hr; clear hr hi0 hi1 hi2 hi3
    have hgc : grownCap w n 0 5 ≤ maxLen := grownCap_le_maxLen w n 0 _ (by simp only [maxLen]; omega)
    have hgn : n ≤ grownCap w n 0 5 := grownCap_ge w n 0 _
    generalize grownCap w n 0 5 = c at *
    have hpos : 0 < n := by omega
    unfold maxLen at hgc
    go_enter Tryz.func191, Tryz.ntmps191
    go_wp2_with (at_builtin; refine Lib.wpList_append_run _ rfl _ _ _ _ rfl _ _ rfl rfl _ _ (HR.out _) ?_)
    go_ret
    refine ⟨_, rfl, ⟨rfl, .inr ⟨w.heap.size, c, _, rfl, Nat.le_refl _, new_rowW _ _ _ rfl, Nat.zero_le _, by simp only [maxLen]; omega, ?_, rfl⟩⟩, (Below.refl _ _).drew.alloc (by simp) _⟩
    simp [size_zeroCells, Value.cells]; omega
def PcS (w : World) (v : Value) (ps : List (List UInt8)) : Prop :=
  ∃ (p : Option Addr) (cap : Nat), v = .slice p ps.length cap ∧ ps.length ≤ cap ∧ cap ≤ maxLen ∧
    (ps ≠ [] → ∃ g o, p = some ⟨g, o, none⟩ ∧ ∀ i b, ps[i]? = some b → ∃ x, w.cell? ⟨g, o + i, none⟩ = some x ∧ BS w x b)
theorem PcS.below {w w' : World} {v : Value} {ps : List (List UInt8)} (h : PcS w v ps) (hb : Below w.heap.size w w') : PcS w' v ps := by
  obtain ⟨p, cap, h1, h2, h3, h4⟩ := h
  refine ⟨p, cap, h1, h2, h3, fun hl => ?_⟩
  obtain ⟨g, o, e, hc⟩ := h4 hl
  refine ⟨g, o, e, fun i b hi => ?_⟩
  obtain ⟨x, hx, hbs⟩ := hc i b hi
  exact ⟨x, (hb.cell (p := ⟨g, o + i, none⟩) (cell_blockW hx)).trans hx, hbs.below hb⟩
theorem take_at {α : Type} {l : List α} {k : Nat} {x : α} (h : l[k]? = some x) : l.take (k + 1) = l.take k ++ [x] := by
  obtain ⟨hk, hx⟩ := List.getElem?_eq_some_iff.1 h
  rw [List.take_add_one, h]
  rfl

set_option maxRecDepth 4000 in
set_option maxHeartbeats 1000000 in
theorem concat_any (v : Value) (ps : List (List UInt8)) (hl : ps.flatten.length ≤ 1073741824) (w : World) (hv : PcS w v ps) :
    Calls Tryz.prog 144 #[v] w fun e w' => ∃ v', e = .returned v' ∧ w'.ownsRow w.heap.size 5 1 v' ps.flatten.length (bytesV ps.flatten) ∧ Below w.heap.size w w' := by
  obtain ⟨p, cap, rfl, h1, h2, h3⟩ := hv
  generalize hn : ps.length = n at *
  have HN := Lib.hid hn; clear hn
  have H3 := Lib.hid h3; clear h3
  have HT : Hid (∀ k b, ps[k]? = some b → (ps.take (k + 1)).flatten = (ps.take k).flatten ++ b ∧ (ps.take k).flatten.length + b.length ≤ ps.flatten.length) := Lib.hid (fun k b hk => by
    have e : (ps.take (k + 1)).flatten = (ps.take k).flatten ++ b := by rw [take_at hk, List.flatten_append]; simp
    refine ⟨e, ?_⟩
    rw [← List.length_append, ← e]
    have := congrArg (fun l => (List.flatten l).length) (List.take_append_drop (k + 1) ps)
    simp only [List.flatten_append, List.length_append] at this
    omega)
  have HW : Hid ((ps.take n).flatten = ps.flatten) := Lib.hid (by rw [List.take_of_length_le (by have := HN.out; omega)])
  have HL := Lib.hid hl; clear hl
  unfold maxLen at h2
  go_enter Tryz.func144, Tryz.ntmps144
  go_wp2
  go_loop [3, 11] (fun s i => ∃ k : Nat, k ≤ n ∧ i = .int .i64 k ∧ s = .int .i64 (ps.take k).flatten.length) (fun _ i => n - (intOf i).toNat)
  case atStart => exact ⟨0, Nat.zero_le _, rfl, rfl⟩
  case round =>
    obtain ⟨k, hk, rfl, rfl⟩ := hrel
    by_cases hlt : k < n
    · obtain ⟨b, hb⟩ : ∃ b, ps[k]? = some b := ⟨_, List.getElem?_eq_getElem (by have := HN.out; omega)⟩
      obtain ⟨g, o, rfl, hc⟩ := H3.out (by intro h; subst h; simp at hb)
      obtain ⟨x, hx, hbs⟩ := hc k b hb
      obtain ⟨q, c', rfl, g1, g2, g3⟩ := hbs
      obtain ⟨e1, e2⟩ := HT.out k b hb
      have hle := Nat.le_trans e2 HL.out
      have E1 : Hid ((ps.take (k + 1)).flatten.length = (ps.take k).flatten.length + b.length) := Lib.hid (by rw [e1, List.length_append])
      generalize (ps.take k).flatten.length = m at *
      generalize b.length = j at *
      clear e1 e2 hb hc g3
      go_wp2
      go_round
      case rel => exact ⟨k + 1, by omega, by go_num, by rw [E1.out]; go_num⟩
      case measure => simp [intOf]; omega
    · obtain rfl : k = n := by omega
      have hle := HL.out
      rw [HW.out]
      generalize hm : ps.flatten.length = m at *
      have HM := Lib.hid hm; clear hm
      go_wp2_with fail
      refine (grow_any m (by omega) _).mono ?_
      rintro e w1 ⟨v1, rfl, hown1, hb1⟩
      have HO1 := Lib.hid hown1
      have HB1 := Lib.hid hb1
      clear hown1 hb1
      go_wp2_with fail
      go_loopw [6, 27] (fun v i wr => ∃ (j : Nat) (u : Value), j ≤ k ∧ v = u ∧ i = .int .i64 j ∧ Below w.heap.size w wr ∧ wr.ownsRow w.heap.size 5 1 u (ps.take j).flatten.length (bytesV (ps.take j).flatten)) (fun _ i _ => k - (intOf i).toNat)
      case atStart => exact ⟨0, _, Nat.zero_le _, rfl, rfl, HB1.out, HO1.out⟩
      case round =>
        obtain ⟨j, u, hj, rfl, rfl, hbw, hown⟩ := hrel
        have HO := Lib.hid hown; clear hown
        have HBW := Lib.hid hbw
        by_cases hjk : j < k
        · obtain ⟨b, hb⟩ : ∃ b, ps[j]? = some b := ⟨_, List.getElem?_eq_getElem (by have := HN.out; omega)⟩
          obtain ⟨g, o, rfl, hc⟩ := H3.out (by intro h; subst h; simp at hb)
          obtain ⟨x, hx, hbs⟩ := hc j b hb
          have hxr := (hbw.cell (p := ⟨g, o + j, none⟩) (cell_blockW hx)).trans hx
          have HX := Lib.hid (hbs.below hbw)
          obtain ⟨e1, e2⟩ := HT.out j b hb
          have hle2 := Nat.le_trans e2 hle
          have E1 := Lib.hid e1
          clear e1 e2 hb hc hbw hx hbs
          go_wp2_with (at_builtin; refine wpList_append_bytes rfl _ _ rfl w.heap.size _ _ _ rfl HO.out _ b rfl HX.out ?c1 HBW.out.size ?_)
          case c1 => omega
          intro v2 w2 hown2 hg2 hn2 hat2
          have HO2 : Hid (w2.ownsRow w.heap.size 5 1 v2 (ps.take (j + 1)).flatten.length (bytesV (ps.take (j + 1)).flatten)) := Lib.hid (by rw [E1.out, bytesV_append, List.length_append, List.length_flatten, List.map_take]; exact hown2)
          have HB2 := Lib.hid (HBW.out.grown hg2 HBW.out.size (fun q hq => (HO.out.lt q hq).1))
          clear hown2 hg2 hn2 hat2
          go_wp2
          go_roundw
          case rel => exact ⟨j + 1, _, by omega, rfl, by go_num, HB2.out, HO2.out⟩
          case measure => simp [intOf]; omega
        · obtain rfl : j = k := by omega
          have HF : Hid (wr.ownsRow w.heap.size 5 1 _ m (bytesV ps.flatten)) := Lib.hid (by have := HO.out; rw [HW.out, HM.out] at this; exact this)
          go_wp2
          go_ret
          exact ⟨_, rfl, by rw [HM.out]; exact HF.out, HBW.out⟩
end Go.Proofs.YtbmphlpmipkpcaaGreat
end

section
namespace Go.Proofs.YtbmphlpmipkpcaaGreat.Wire

/-- a number of a size: its highest byte first -/
def be : Nat → Nat → List UInt8
  | _, 0 => []
  | n, k + 1 => be (n / 256) k ++ [UInt8.ofNat (n % 256)]
def bstep (a : Nat) (c : UInt8) : Nat := 256 * a + c.toNat
/-- what bytes come to -/
def ofBe (l : List UInt8) : Nat := l.foldl bstep 0
def maySize (s : Int) : Bool := decide (s = 1) || decide (s = 2) || decide (s = 4) || decide (s = 8)

/-- A writer: what was put; none: it failed. -/
def wNum (st : Option (List UInt8)) (n : Nat) (s : Int) : Option (List UInt8) :=
  if maySize s = true ∧ n < 256 ^ s.toNat then st.map (· ++ be n s.toNat) else none
def wBytes (st : Option (List UInt8)) (b : List UInt8) : Option (List UInt8) := st.map (· ++ b)
def wBlob (st : Option (List UInt8)) (b : List UInt8) : Option (List UInt8) :=
  if b.length ≤ 16777216 then wBytes (wNum st b.length 4) b else none

theorem be_length (n k : Nat) : (be n k).length = k := by
  induction k generalizing n with
  | zero => rfl
  | succ k ih => simp [be, ih]
theorem ofBe_snoc (l : List UInt8) (c : UInt8) : ofBe (l ++ [c]) = 256 * ofBe l + c.toNat := by
  unfold ofBe; rw [List.foldl_append]; simp only [List.foldl_cons, List.foldl_nil, bstep]
theorem ofBe_be (n k : Nat) : ofBe (be n k) = n % 256 ^ k := by
  induction k generalizing n with
  | zero => simp [be, ofBe, Nat.mod_one]
  | succ k ih =>
    simp only [be]
    rw [ofBe_snoc, ih, Nat.pow_succ, Nat.mul_comm (256 ^ k) 256, Nat.mod_mul]
    have : (UInt8.ofNat (n % 256)).toNat = n % 256 := by rw [UInt8.toNat_ofNat']; omega
    rw [this]; omega
theorem snocRec {α : Type} {M : List α → Prop} (h0 : M []) (h1 : ∀ l c, M l → M (l ++ [c])) (l : List α) : M l := by
  have h : ∀ r : List α, M r.reverse := by
    intro r
    induction r with
    | nil => exact h0
    | cons c r ih => rw [List.reverse_cons]; exact h1 _ _ ih
  have := h l.reverse
  rwa [List.reverse_reverse] at this
theorem ofBe_lt (l : List UInt8) : ofBe l < 256 ^ l.length := by
  induction l using snocRec with
  | h0 => simp [ofBe]
  | h1 l c ih =>
    rw [ofBe_snoc, List.length_append, List.length_singleton, Nat.pow_succ]
    have := c.toNat_lt
    omega
theorem be_ofBe (l : List UInt8) : be (ofBe l) l.length = l := by
  induction l using snocRec with
  | h0 => rfl
  | h1 l c ih =>
    rw [List.length_append, List.length_singleton]
    show be (ofBe (l ++ [c]) / 256) l.length ++ [UInt8.ofNat (ofBe (l ++ [c]) % 256)] = _
    rw [ofBe_snoc]
    have hc := c.toNat_lt
    rw [show (256 * ofBe l + c.toNat) / 256 = ofBe l from by omega, ih, show (256 * ofBe l + c.toNat) % 256 = c.toNat from by omega]
    simp
theorem be_cons (n j : Nat) : be n (j + 1) = UInt8.ofNat (n / 256 ^ j % 256) :: be n j := by
  induction j generalizing n with
  | zero => simp [be]
  | succ j ih =>
    show be (n / 256) (j + 1) ++ [UInt8.ofNat (n % 256)] = _
    rw [ih]
    show UInt8.ofNat (n / 256 / 256 ^ j % 256) :: (be (n / 256) j ++ [UInt8.ofNat (n % 256)]) = _
    rw [Nat.div_div_eq_div_mul, Nat.pow_succ, Nat.mul_comm 256 (256 ^ j)]
    rfl
theorem be_drop (n s t : Nat) : (be n (s + t)).drop s = be n t := by
  induction s with
  | zero => simp
  | succ s ih => rw [show s + 1 + t = (s + t) + 1 from by omega, be_cons]; exact ih
theorem be_take (n s t : Nat) : (be n (s + t)).take s = be (n / 256 ^ t) s := by
  induction t generalizing n with
  | zero => rw [Nat.add_zero, List.take_of_length_le (by rw [be_length]; omega)]; simp
  | succ t ih =>
    show (be (n / 256) (s + t) ++ [UInt8.ofNat (n % 256)]).take s = _
    rw [List.take_append_of_le_length (by rw [be_length]; omega), ih, Nat.div_div_eq_div_mul, Nat.pow_succ, Nat.mul_comm 256]
theorem be_zero (s : Nat) : be 0 s = List.replicate s 0 := by
  induction s with
  | zero => rfl
  | succ s ih => show be (0 / 256) s ++ _ = _; rw [Nat.zero_div, ih, List.replicate_succ']; rfl
theorem be_inj {n s : Nat} (h : be n s = List.replicate s 0) : n % 256 ^ s = 0 := by
  have := congrArg ofBe h
  rw [ofBe_be, ← be_zero, ofBe_be] at this
  rw [this, Nat.zero_mod]
theorem ahead_zero {n s t : Nat} (hn : n < 256 ^ (s + t)) : decide ((be n (s + t)).take s = List.replicate s 0) = decide (n < 256 ^ t) := by
  rw [be_take, Bool.eq_iff_iff, decide_eq_true_eq, decide_eq_true_eq]
  have hp : 0 < 256 ^ t := Nat.pow_pos (by decide)
  have hlt : n / 256 ^ t < 256 ^ s := by rw [Nat.div_lt_iff_lt_mul hp, ← Nat.pow_add]; exact hn
  constructor
  · intro h
    have := be_inj h
    rw [Nat.mod_eq_of_lt hlt] at this
    rcases (Nat.div_eq_zero_iff.1 this) with h | h <;> omega
  · intro h
    rw [Nat.div_eq_of_lt h, be_zero]
end Go.Proofs.YtbmphlpmipkpcaaGreat.Wire
end
