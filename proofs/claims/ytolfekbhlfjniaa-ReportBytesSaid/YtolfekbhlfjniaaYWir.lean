/- Contracts of the library's bytes.Clone, bytes.Equal, slices.Grow and slices.Concat at bytes. Plain definitions and facts on numbers as bytes; no program in sight. Contracts of package wire's Writer. Contracts of package wire's Writer: Bytes, Number, Int, Flag, Blob, Text, Count, Len, End. Contracts of package wire's Writer, on: Int, Flag, Blob, Text, Count, Len, End; and the chapter's rows (known). The wire chapter's rows (known), and small words on worlds. -/
import Derived.Test.YtolfekbhlfjniaaMem
import GoSem.Core.Value
import Derived.Deep.RegionHeld3
import Derived.Deep.RegionLaw
import Derived.Deep.RegionWith
set_option linter.unusedVariables false
set_option linter.unusedSimpArgs false
namespace Go.Proofs.Ytolfekbhlfjniaa
open Go.RowKit

theorem nil_eq (w : World) (a : Option Addr) (n c n' c' : Nat) : (binOp .eql 40 (.slice a n c) (.slice none n' c')).run Try.prog w = .ok (.bool a.isNone) w := Lib.run_eql_slice_nil w _ _ a n c n' c' Try.underlying40
theorem own_of_row {w : World} {base e g : Nat} (hg : w.heap[g]? = some (.cells #[] e (0, 0))) (hb : base ≤ g) : w.ownsRow base e 1 (.slice (some ⟨g, 0, none⟩) 0 0) 0 [] :=
  ⟨rfl, .inr ⟨g, 0, #[], rfl, hb, hg, Nat.le_refl _, Nat.zero_le _, rfl, rfl⟩⟩

set_option maxRecDepth 4000 in
set_option maxHeartbeats 400000 in
theorem clone_any (v : Value) (l : List UInt8) (hl : l.length ≤ 1073741824) (w : World) (hv : BS w v l) :
    Calls Try.prog 72 #[v] w fun e w' => ∃ v', e = .returned v' ∧ w'.ownsRow w.heap.size 5 1 v' l.length (bytesV l) ∧ Below w.heap.size w w' := by
  have HV := Lib.hid hv
  obtain ⟨p, cap, rfl, h1, h2, h3⟩ := hv
  have hq := fun W => nil_eq W p l.length cap 0 0
  have H3 := Lib.hid h3; clear h3
  cases p with
  | none =>
    have hl0 : l = [] := by
      by_cases hl : l = []
      · exact hl
      · obtain ⟨b, o, h, _⟩ := H3.out hl; cases h
    subst hl0
    simp only [List.length_nil] at *
    go_enter Try.func72, Try.ntmps72
    go_wp2
    go_ret
    exact ⟨_, rfl, World.ownsRow_nil _ _ _ _, Below.refl _ _⟩
  | some ad =>
    generalize hn : l.length = n at *
    have HN := Lib.hid hn; clear hn
    go_enter Try.func72, Try.ntmps72
    go_wp2_with (at_builtin; refine wpList_append_bytes rfl _ _ rfl w.heap.size _ 0 [] rfl (own_of_row (new_rowW _ _ _ rfl) (Nat.le_refl _)) _ l rfl (HV.out.alloc _) (by have := HN.out; omega) (by simp) ?_; intro v1 w1 hown1 hg1 hn1 hat1)
    have HO : Hid (w1.ownsRow w.heap.size 5 1 v1 n (bytesV l)) := Lib.hid (by have := hown1; rw [Nat.zero_add, HN.out] at this; exact this)
    have HB : Hid (Below w.heap.size w w1) := Lib.hid (((Below.refl w.heap.size w).alloc (Nat.le_refl _) _).grown hg1 (by simp) (fun b hb => by injection hb with hb; simp at hb; omega))
    clear hown1 hg1 hn1 hat1
    go_wp2
    go_ret
    exact ⟨_, rfl, HO.out, HB.out⟩

set_option maxHeartbeats 400000 in
theorem equal_any (v v' : Value) (l l' : List UInt8) (w : World) (hv : BS w v l) (hv' : BS w v' l') :
    Calls Try.prog 81 #[v, v'] w fun e w' => e = .returned (.bool (decide (l = l'))) ∧ w = w' := by
  have h1 := hv.to_string
  have h2 := hv'.to_string
  have H : Hid ((((⟨l.toArray⟩ : ByteArray).toList == (⟨l'.toArray⟩ : ByteArray).toList)) = decide (l = l')) := Lib.hid (by
    rw [ByteArray.toList_eq, ByteArray.toList_eq, Bool.eq_iff_iff]; simp)
  obtain ⟨p, cap, rfl, g1, g2, g3⟩ := hv
  obtain ⟨p', cap', rfl, g1', g2', g3'⟩ := hv'
  clear g1 g2 g3 g1' g2' g3'
  generalize (⟨l.toArray⟩ : ByteArray) = S at *
  generalize (⟨l'.toArray⟩ : ByteArray) = S' at *
  go_enter Try.func81, Try.ntmps81
  go_wp2
  go_ret
  refine ⟨ret_boolW ?_, rfl⟩
  rw [← H.out]

set_option maxRecDepth 4000 in
set_option maxHeartbeats 400000 in
theorem grow_any (n : Nat) (hn : n ≤ 1099511627776) (w : World) :
    Calls Try.prog 111 #[.slice none 0 0, .int .i64 n] w fun e w' => ∃ v', e = .returned v' ∧ w'.ownsRow w.heap.size 5 1 v' 0 [] ∧ Below w.heap.size w w' := by
  by_cases h0 : n = 0
  · subst h0
    go_enter Try.func111, Try.ntmps111
    go_wp2
    go_ret
    exact ⟨_, rfl, World.ownsRow_nil _ _ _ _, Below.refl _ _⟩
  · obtain ⟨i0, hi0, hi1, hi2, hi3⟩ := byte_info
    have hr := fun ty => Lib.run_append_nil_zeros (P := Try.prog) w 40 3 ty _ i0 _ .i64 .i64 Try.underlying40 Try.underlying3 hi0 hi1 n (by omega) (by omega) (by omega) (by rw [hi3]; omega)
    have HR := Lib.hid hr; clear hr hi0 hi1 hi2 hi3
    have hgc : grownCap w n 0 5 ≤ maxLen := grownCap_le_maxLen w n 0 _ (by simp only [maxLen]; omega)
    have hgn : n ≤ grownCap w n 0 5 := grownCap_ge w n 0 _
    generalize grownCap w n 0 5 = c at *
    have hpos : 0 < n := by omega
    unfold maxLen at hgc
    go_enter Try.func111, Try.ntmps111
    go_wp2_with (at_builtin; refine Lib.wpList_append_run _ rfl _ _ _ _ rfl _ _ rfl rfl _ _ (HR.out _) ?_)
    go_ret
    refine ⟨_, rfl, ⟨rfl, .inr ⟨w.heap.size, c, _, rfl, Nat.le_refl _, new_rowW _ _ _ rfl, Nat.zero_le _, by simp only [maxLen]; omega, ?_, rfl⟩⟩, (Below.refl _ _).drew.alloc (by simp) _⟩
    simp [size_zeroCells, Value.cells]; omega
def PcS (w : World) (v : Value) (ps : List (List UInt8)) : Prop :=
  ∃ (p : Option Addr) (cap : Nat), v = .slice p ps.length cap ∧ ps.length ≤ cap ∧ cap ≤ maxLen ∧
    (ps ≠ [] → ∃ g o, p = some ⟨g, o, none⟩ ∧ ∀ i b, ps[i]? = some b → ∃ x, w.cell? ⟨g, o + i, none⟩ = some x ∧ BS w x b)
theorem PcS.below {w w' : World} {v : Value} {ps : List (List UInt8)} (h : PcS w v ps) (hb : Below w.heap.size w w') : PcS w' v ps := by
  obtain ⟨p, cap, h1, h2, h3, h4⟩ := h
  refine ⟨p, cap, h1, h2, h3, fun hl => ?_⟩
  obtain ⟨g, o, e, hc⟩ := h4 hl
  refine ⟨g, o, e, fun i b hi => ?_⟩
  obtain ⟨x, hx, hbs⟩ := hc i b hi
  exact ⟨x, (hb.cell (p := ⟨g, o + i, none⟩) (cell_blockW hx)).trans hx, hbs.below hb⟩
theorem take_at {α : Type} {l : List α} {k : Nat} {x : α} (h : l[k]? = some x) : l.take (k + 1) = l.take k ++ [x] := by
  obtain ⟨hk, hx⟩ := List.getElem?_eq_some_iff.1 h
  rw [List.take_add_one, h]
  rfl

set_option maxRecDepth 4000 in
set_option maxHeartbeats 1000000 in
theorem concat_any (v : Value) (ps : List (List UInt8)) (hl : ps.flatten.length ≤ 1073741824) (w : World) (hv : PcS w v ps) :
    Calls Try.prog 85 #[v] w fun e w' => ∃ v', e = .returned v' ∧ w'.ownsRow w.heap.size 5 1 v' ps.flatten.length (bytesV ps.flatten) ∧ Below w.heap.size w w' := by
  obtain ⟨p, cap, rfl, h1, h2, h3⟩ := hv
  generalize hn : ps.length = n at *
  have HN := Lib.hid hn; clear hn
  have H3 := Lib.hid h3; clear h3
  have HT : Hid (∀ k b, ps[k]? = some b → (ps.take (k + 1)).flatten = (ps.take k).flatten ++ b ∧ (ps.take k).flatten.length + b.length ≤ ps.flatten.length) := Lib.hid (fun k b hk => by
    have e : (ps.take (k + 1)).flatten = (ps.take k).flatten ++ b := by rw [take_at hk, List.flatten_append]; simp
    refine ⟨e, ?_⟩
    rw [← List.length_append, ← e]
    have := congrArg (fun l => (List.flatten l).length) (List.take_append_drop (k + 1) ps)
    simp only [List.flatten_append, List.length_append] at this
    omega)
  have HW : Hid ((ps.take n).flatten = ps.flatten) := Lib.hid (by rw [List.take_of_length_le (by have := HN.out; omega)])
  have HL := Lib.hid hl; clear hl
  unfold maxLen at h2
  go_enter Try.func85, Try.ntmps85
  go_wp2
  go_loop [3, 11] (fun s i => ∃ k : Nat, k ≤ n ∧ i = .int .i64 k ∧ s = .int .i64 (ps.take k).flatten.length) (fun _ i => n - (intOf i).toNat)
  case atStart => exact ⟨0, Nat.zero_le _, rfl, rfl⟩
  case round =>
    obtain ⟨k, hk, rfl, rfl⟩ := hrel
    by_cases hlt : k < n
    · obtain ⟨b, hb⟩ : ∃ b, ps[k]? = some b := ⟨_, List.getElem?_eq_getElem (by have := HN.out; omega)⟩
      obtain ⟨g, o, rfl, hc⟩ := H3.out (by intro h; subst h; simp at hb)
      obtain ⟨x, hx, hbs⟩ := hc k b hb
      obtain ⟨q, c', rfl, g1, g2, g3⟩ := hbs
      obtain ⟨e1, e2⟩ := HT.out k b hb
      have hle := Nat.le_trans e2 HL.out
      have E1 : Hid ((ps.take (k + 1)).flatten.length = (ps.take k).flatten.length + b.length) := Lib.hid (by rw [e1, List.length_append])
      generalize (ps.take k).flatten.length = m at *
      generalize b.length = j at *
      clear e1 e2 hb hc g3
      go_wp2
      go_round
      case rel => exact ⟨k + 1, by omega, by go_num, by rw [E1.out]; go_num⟩
      case measure => simp [intOf]; omega
    · obtain rfl : k = n := by omega
      have hle := HL.out
      rw [HW.out]
      generalize hm : ps.flatten.length = m at *
      have HM := Lib.hid hm; clear hm
      go_wp2_with fail
      refine (grow_any m (by omega) _).mono ?_
      rintro e w1 ⟨v1, rfl, hown1, hb1⟩
      have HO1 := Lib.hid hown1
      have HB1 := Lib.hid hb1
      clear hown1 hb1
      go_wp2_with fail
      go_loopw [6, 27] (fun v i wr => ∃ (j : Nat) (u : Value), j ≤ k ∧ v = u ∧ i = .int .i64 j ∧ Below w.heap.size w wr ∧ wr.ownsRow w.heap.size 5 1 u (ps.take j).flatten.length (bytesV (ps.take j).flatten)) (fun _ i _ => k - (intOf i).toNat)
      case atStart => exact ⟨0, _, Nat.zero_le _, rfl, rfl, HB1.out, HO1.out⟩
      case round =>
        obtain ⟨j, u, hj, rfl, rfl, hbw, hown⟩ := hrel
        have HO := Lib.hid hown; clear hown
        have HBW := Lib.hid hbw
        by_cases hjk : j < k
        · obtain ⟨b, hb⟩ : ∃ b, ps[j]? = some b := ⟨_, List.getElem?_eq_getElem (by have := HN.out; omega)⟩
          obtain ⟨g, o, rfl, hc⟩ := H3.out (by intro h; subst h; simp at hb)
          obtain ⟨x, hx, hbs⟩ := hc j b hb
          have hxr := (hbw.cell (p := ⟨g, o + j, none⟩) (cell_blockW hx)).trans hx
          have HX := Lib.hid (hbs.below hbw)
          obtain ⟨e1, e2⟩ := HT.out j b hb
          have hle2 := Nat.le_trans e2 hle
          have E1 := Lib.hid e1
          clear e1 e2 hb hc hbw hx hbs
          go_wp2_with (at_builtin; refine wpList_append_bytes rfl _ _ rfl w.heap.size _ _ _ rfl HO.out _ b rfl HX.out ?c1 HBW.out.size ?_)
          case c1 => omega
          intro v2 w2 hown2 hg2 hn2 hat2
          have HO2 : Hid (w2.ownsRow w.heap.size 5 1 v2 (ps.take (j + 1)).flatten.length (bytesV (ps.take (j + 1)).flatten)) := Lib.hid (by rw [E1.out, bytesV_append, List.length_append, List.length_flatten, List.map_take]; exact hown2)
          have HB2 := Lib.hid (HBW.out.grown hg2 HBW.out.size (fun q hq => (HO.out.lt q hq).1))
          clear hown2 hg2 hn2 hat2
          go_wp2
          go_roundw
          case rel => exact ⟨j + 1, _, by omega, rfl, by go_num, HB2.out, HO2.out⟩
          case measure => simp [intOf]; omega
        · obtain rfl : j = k := by omega
          have HF : Hid (wr.ownsRow w.heap.size 5 1 _ m (bytesV ps.flatten)) := Lib.hid (by have := HO.out; rw [HW.out, HM.out] at this; exact this)
          go_wp2
          go_ret
          exact ⟨_, rfl, by rw [HM.out]; exact HF.out, HBW.out⟩
end Go.Proofs.Ytolfekbhlfjniaa

namespace Go.Proofs.Ytolfekbhlfjniaa.Wire

/-- a number of a size: its highest byte first -/
def be : Nat → Nat → List UInt8
  | _, 0 => []
  | n, k + 1 => be (n / 256) k ++ [UInt8.ofNat (n % 256)]
def bstep (a : Nat) (c : UInt8) : Nat := 256 * a + c.toNat
/-- what bytes come to -/
def ofBe (l : List UInt8) : Nat := l.foldl bstep 0
def maySize (s : Int) : Bool := decide (s = 1) || decide (s = 2) || decide (s = 4) || decide (s = 8)

/-- A writer: what was put; none: it failed. -/
def wNum (st : Option (List UInt8)) (n : Nat) (s : Int) : Option (List UInt8) :=
  if maySize s = true ∧ n < 256 ^ s.toNat then st.map (· ++ be n s.toNat) else none
def wBytes (st : Option (List UInt8)) (b : List UInt8) : Option (List UInt8) := st.map (· ++ b)
def wBlob (st : Option (List UInt8)) (b : List UInt8) : Option (List UInt8) :=
  if b.length ≤ 16777216 then wBytes (wNum st b.length 4) b else none

theorem be_length (n k : Nat) : (be n k).length = k := by
  induction k generalizing n with
  | zero => rfl
  | succ k ih => simp [be, ih]
theorem ofBe_snoc (l : List UInt8) (c : UInt8) : ofBe (l ++ [c]) = 256 * ofBe l + c.toNat := by
  unfold ofBe; rw [List.foldl_append]; simp only [List.foldl_cons, List.foldl_nil, bstep]
theorem ofBe_be (n k : Nat) : ofBe (be n k) = n % 256 ^ k := by
  induction k generalizing n with
  | zero => simp [be, ofBe, Nat.mod_one]
  | succ k ih =>
    simp only [be]
    rw [ofBe_snoc, ih, Nat.pow_succ, Nat.mul_comm (256 ^ k) 256, Nat.mod_mul]
    have : (UInt8.ofNat (n % 256)).toNat = n % 256 := by rw [UInt8.toNat_ofNat']; omega
    rw [this]; omega
theorem snocRec {α : Type} {M : List α → Prop} (h0 : M []) (h1 : ∀ l c, M l → M (l ++ [c])) (l : List α) : M l := by
  have h : ∀ r : List α, M r.reverse := by
    intro r
    induction r with
    | nil => exact h0
    | cons c r ih => rw [List.reverse_cons]; exact h1 _ _ ih
  have := h l.reverse
  rwa [List.reverse_reverse] at this
theorem ofBe_lt (l : List UInt8) : ofBe l < 256 ^ l.length := by
  induction l using snocRec with
  | h0 => simp [ofBe]
  | h1 l c ih =>
    rw [ofBe_snoc, List.length_append, List.length_singleton, Nat.pow_succ]
    have := c.toNat_lt
    omega
theorem be_ofBe (l : List UInt8) : be (ofBe l) l.length = l := by
  induction l using snocRec with
  | h0 => rfl
  | h1 l c ih =>
    rw [List.length_append, List.length_singleton]
    show be (ofBe (l ++ [c]) / 256) l.length ++ [UInt8.ofNat (ofBe (l ++ [c]) % 256)] = _
    rw [ofBe_snoc]
    have hc := c.toNat_lt
    rw [show (256 * ofBe l + c.toNat) / 256 = ofBe l from by omega, ih, show (256 * ofBe l + c.toNat) % 256 = c.toNat from by omega]
    simp
theorem be_cons (n j : Nat) : be n (j + 1) = UInt8.ofNat (n / 256 ^ j % 256) :: be n j := by
  induction j generalizing n with
  | zero => simp [be]
  | succ j ih =>
    show be (n / 256) (j + 1) ++ [UInt8.ofNat (n % 256)] = _
    rw [ih]
    show UInt8.ofNat (n / 256 / 256 ^ j % 256) :: (be (n / 256) j ++ [UInt8.ofNat (n % 256)]) = _
    rw [Nat.div_div_eq_div_mul, Nat.pow_succ, Nat.mul_comm 256 (256 ^ j)]
    rfl
theorem be_drop (n s t : Nat) : (be n (s + t)).drop s = be n t := by
  induction s with
  | zero => simp
  | succ s ih => rw [show s + 1 + t = (s + t) + 1 from by omega, be_cons]; exact ih
theorem be_take (n s t : Nat) : (be n (s + t)).take s = be (n / 256 ^ t) s := by
  induction t generalizing n with
  | zero => rw [Nat.add_zero, List.take_of_length_le (by rw [be_length]; omega)]; simp
  | succ t ih =>
    show (be (n / 256) (s + t) ++ [UInt8.ofNat (n % 256)]).take s = _
    rw [List.take_append_of_le_length (by rw [be_length]; omega), ih, Nat.div_div_eq_div_mul, Nat.pow_succ, Nat.mul_comm 256]
theorem be_zero (s : Nat) : be 0 s = List.replicate s 0 := by
  induction s with
  | zero => rfl
  | succ s ih => show be (0 / 256) s ++ _ = _; rw [Nat.zero_div, ih, List.replicate_succ']; rfl
theorem be_inj {n s : Nat} (h : be n s = List.replicate s 0) : n % 256 ^ s = 0 := by
  have := congrArg ofBe h
  rw [ofBe_be, ← be_zero, ofBe_be] at this
  rw [this, Nat.zero_mod]
theorem ahead_zero {n s t : Nat} (hn : n < 256 ^ (s + t)) : decide ((be n (s + t)).take s = List.replicate s 0) = decide (n < 256 ^ t) := by
  rw [be_take, Bool.eq_iff_iff, decide_eq_true_eq, decide_eq_true_eq]
  have hp : 0 < 256 ^ t := Nat.pow_pos (by decide)
  have hlt : n / 256 ^ t < 256 ^ s := by rw [Nat.div_lt_iff_lt_mul hp, ← Nat.pow_add]; exact hn
  constructor
  · intro h
    have := be_inj h
    rw [Nat.mod_eq_of_lt hlt] at this
    rcases (Nat.div_eq_zero_iff.1 this) with h | h <;> omega
  · intro h
    rw [Nat.div_eq_of_lt h, be_zero]
end Go.Proofs.Ytolfekbhlfjniaa.Wire

set_option linter.unusedVariables false
set_option linter.unusedSimpArgs false
namespace Go.Proofs.Ytolfekbhlfjniaa
open Go.RowKit

/-- the types of the blocks that a writer's methods write -/
def WT : List TypeId := [92, 40]
/-- a writer at a block, of blocks of its own from base on, that has put st (none: it failed), in at most k pieces and bytes -/
def IsW (w : World) (base bw k : Nat) (st : Option (List UInt8)) : Prop :=
  base ≤ bw ∧ match st with
  | none => w.heap[bw]? = some (.cells #[.slice none 0 0, .int .i64 0, .bool true] 92 (0, 0))
  | some l => ∃ (pv : Value) (ps : List (List UInt8)) (vs : List Value), w.heap[bw]? = some (.cells #[pv, .int .i64 l.length, .bool false] 92 (0, 0)) ∧ ps.flatten = l ∧ vs.length = ps.length ∧ ps.length + l.length ≤ k ∧
      w.ownsRow base 40 1 pv vs.length vs ∧ ∀ (i : Nat) (x : Value) (b : List UInt8), vs[i]? = some x → ps[i]? = some b → w.ownsRow base 5 1 x b.length (bytesV b)
/-- what a writer's method leaves -/
def WStep (w w' : World) (base bw k : Nat) (st : Option (List UInt8)) : Prop := IsW w' base bw k st ∧ Below base w w' ∧ Kept WT w w'

set_option maxHeartbeats 400000 in
theorem wfail_any (base bw k : Nat) (st : Option (List UInt8)) (w : World) (h : IsW w base bw k st) :
    Calls Try.prog 82 #[.pointer (some ⟨bw, 0, none⟩)] w fun e w' => e = .returned (.pointer (some ⟨bw, 0, none⟩)) ∧ ∀ k', WStep w w' base bw k' none := by
  have hrow : ∃ c0 c1 c2, w.heap[bw]? = some (.cells #[c0, c1, c2] 92 (0, 0)) := by
    obtain ⟨_, h⟩ := h
    cases st with
    | none => exact ⟨_, _, _, h⟩
    | some l => obtain ⟨pv, ps, vs, h, _⟩ := h; exact ⟨_, _, _, h⟩
  have hb := Lib.hid h.1
  clear h
  obtain ⟨c0, c1, c2, hrow⟩ := hrow
  have HR := Lib.hid hrow
  have hc := fun j => cell_of_row w bw j _ _ _ hrow
  have hf := fun j => frozen_of_row w bw j _ _ hrow
  clear hrow
  go_enter Try.func82, Try.ntmps82
  go_wp2
  go_ret
  refine ⟨rfl, fun k' => ⟨⟨hb.out, ?_⟩, ?_, ?_⟩⟩
  · show (((w.setCell ⟨bw, 0, none⟩ _).setCell ⟨bw, 1, none⟩ _).setCell ⟨bw, 2, none⟩ _).heap[bw]? = _
    rw [heap_setCell_same _ _ _ _ _ _ (heap_setCell_same _ _ _ _ _ _ (heap_setCell_same _ _ _ _ _ _ HR.out))]
    rfl
  · exact (((Below.refl _ _).setCell hb.out _).setCell hb.out _).setCell hb.out _
  · exact (((Kept.refl _ _).setCell HR.out (by simp [WT]) _).setCell (heap_setCell_same _ _ _ _ _ _ HR.out) (by simp [WT]) _).setCell (heap_setCell_same _ _ _ _ _ _ (heap_setCell_same _ _ _ _ _ _ HR.out)) (by simp [WT]) _

theorem own_form {w : World} {base e n : Nat} {v : Value} {xs : List Value} (h : w.ownsRow base e 1 v n xs) : ∃ q c, v = .slice q n c := by
  rcases h.2 with ⟨rfl, rfl⟩ | ⟨g, cap, cur, rfl, _⟩
  · exact ⟨_, _, rfl⟩
  · exact ⟨_, _, rfl⟩
theorem own_below {w w' : World} {base e n : Nat} {v : Value} {xs : List Value} (h : w.ownsRow base e 1 v n xs) (hb : Below w.heap.size w w') : w'.ownsRow base e 1 v n xs := by
  obtain ⟨h1, h2⟩ := h
  refine ⟨h1, ?_⟩
  rcases h2 with h2 | ⟨g, cap, cur, e1, hg, hh, h3⟩
  · exact .inl h2
  · exact .inr ⟨g, cap, cur, e1, hg, (hb.block g (block_lt hh)).trans hh, h3⟩
theorem own_ne {w : World} {base e n g : Nat} {v : Value} {xs : List Value} {cs : Array Value} {t : TypeId} {fr : Nat × Nat} (h : w.ownsRow base e 1 v n xs) (hg : w.heap[g]? = some (.cells cs t fr)) (hne : e ≠ t) : some g ≠ v.ownBlock := by
  rcases h.2 with ⟨rfl, _⟩ | ⟨g', cap, cur, rfl, _, hh, _⟩
  · simp [Value.ownBlock]
  · intro he
    injection he with he
    simp at he
    subst he
    rw [hg] at hh
    injection hh with hh
    injection hh with _ ht
    exact hne ht.symm
theorem row_allocW {w : World} {g : Nat} {ob : Obj} (h : w.heap[g]? = some ob) (o : Obj) : (w.alloc o).heap[g]? = some ob := (Below.heap_alloc w o g (block_lt h)).trans h
theorem piece_info : ∃ i, Try.prog.info? 40 = some i ∧ i.zero = some (.slice none 0 0) ∧ i.size = 1 ∧ i.bytes = 24 := by
  have h : (Try.prog.info? 40).map (fun i => (i.zero, i.size, i.bytes)) = some (some (.slice none 0 0), 1, 24) := by kernel_rfl
  cases hi : Try.prog.info? 40 with
  | none => rw [hi] at h; cases h
  | some i =>
    rw [hi] at h
    injection h with h
    injection h with h1 h2
    injection h2 with h2 h3
    exact ⟨i, rfl, h1, h2, h3⟩
/-- 'append(v, u)' of one slice of bytes, in a region that draws its order -/
theorem step_append_piece {ops : Array Oper} {o : Oper} {a : Act} {K : Act → World → Prop} {Q : Exit → Act → World → Prop} {E : Prop} {w : World} (hgd : o.guard = none) (s x : Operand)
    (ho : o.op = .call { callee := .builtin .append, args := #[s, x], argTypes := #[90, 90] }) (base : Nat) (v : Value) (n : Nat) (xs : List Value) (hs : a.eval s = v) (hown : w.ownsRow base 40 1 v n xs)
    (g : Nat) (u : Value) (hx : a.eval x = .slice (some ⟨g, 0, none⟩) 1 1) (hg : w.heap[g]? = some (.cells #[u] 40 (0, 0))) (h1 : u.oneCell' = true) (hn : n + 1 ≤ 1099511627776) (hbase : base ≤ w.heap.size)
    (h : ∀ v' w', w'.ownsRow base 40 1 v' (n + 1) (xs ++ [u]) → w.grownBy w' v.ownBlock → (v'.ownBlock = v.ownBlock ∨ v'.ownBlock = some w.heap.size) → K (a.put o.dst v') w') :
    if Region.wanted o (yielded ops a.tmps) = true then Oper.wp Try.prog o a w K Q else E := by
  have hw : Region.wanted o (yielded ops a.tmps) = true := by simp [Region.wanted, hgd]
  rw [if_pos hw]
  obtain ⟨i0, hi0, hi1, hi2, hi3⟩ := piece_info
  obtain ⟨v', w', hr, g1, g2, _, g3⟩ := run_append_own_at (P := Try.prog) w base 90 o.type _ i0 _ 1 24 Try.underlying90 hi0 hi1 hi2 hi3 rfl (by decide) v n xs hown ⟨g, 0, none⟩ 1 1 [u] rfl (fun j y hj => by
      rw [Go.WideShapes.add_plain, cell_of_row w g _ _ _ _ hg]
      match j, hj with
      | 0, hj => simpa using hj) (fun y hy => by simp at hy; subst hy; exact h1) (by simp only [maxLen]; omega) (by omega) hbase
  exact Lib.wp_append_run w s x _ _ ho v _ hs hx v' w' hr (h v' w' g1 g2 g3)

theorem own_apart {w : World} {b1 b2 e1 e2 n1 n2 : Nat} {v1 v2 : Value} {xs1 xs2 : List Value} (h1 : w.ownsRow b1 e1 1 v1 n1 xs1) (h2 : w.ownsRow b2 e2 1 v2 n2 xs2) (hne : e1 ≠ e2) : v1.ownBlock = none ∨ v1.ownBlock ≠ v2.ownBlock := by
  rcases h1.2 with ⟨rfl, _⟩ | ⟨g, cap, cur, rfl, _, hh, _⟩
  · exact .inl rfl
  · exact .inr (own_ne h2 hh (fun e => hne e.symm))
theorem own_set {w : World} {base e n g : Nat} {v : Value} {xs : List Value} {cs : Array Value} {t : TypeId} {fr : Nat × Nat} (h : w.ownsRow base e 1 v n xs) (hg : w.heap[g]? = some (.cells cs t fr)) (hne : e ≠ t) (i : Nat) (u : Value) : (w.setCell ⟨g, i, none⟩ u).ownsRow base e 1 v n xs := by
  have hn := own_ne h hg hne
  obtain ⟨h1, h2⟩ := h
  refine ⟨h1, ?_⟩
  rcases h2 with h2 | ⟨g', cap, cur, rfl, hb, hh, h3⟩
  · exact .inl h2
  · exact .inr ⟨g', cap, cur, rfl, hb, (heap_setCell_other w ⟨g, i, none⟩ g' u (fun e => hn (by show some g = some g'; exact congrArg some e.symm))).trans hh, h3⟩
theorem own_more {w : World} {b b' e n : Nat} {v : Value} {xs : List Value} (h : w.ownsRow b e 1 v n xs) (hb : b' ≤ b) : w.ownsRow b' e 1 v n xs := by
  obtain ⟨h1, h2⟩ := h
  refine ⟨h1, ?_⟩
  rcases h2 with h2 | ⟨g', cap, cur, rfl, hg, h3⟩
  · exact .inl h2
  · exact .inr ⟨g', cap, cur, rfl, by omega, h3⟩
theorem kept_grown {T : List TypeId} {a w w' : World} (h : Kept T a w) {base e n : Nat} {v : Value} {xs : List Value} (hown : w.ownsRow base e 1 v n xs) (hg : w.grownBy w' v.ownBlock) (he : e ∈ T) : Kept T a w' :=
  h.trans ⟨hg.size, fun i cs t fr hi ht => (hg.block i (block_lt hi) (own_ne hown hi (fun e' => ht (e' ▸ he)))).trans hi⟩

theorem wbytes_close {base bw k : Nat} {l b : List UInt8} {w w1 w2 : World} {pv x v2 : Value} {ps : List (List UInt8)} {vs : List Value} (hb : base ≤ bw) (hfl : ps.flatten = l) (hvl : vs.length = ps.length) (hkl : ps.length + l.length ≤ k)
    (hown : w.ownsRow base 40 1 pv vs.length vs) (hpc : ∀ (i : Nat) (x : Value) (b : List UInt8), vs[i]? = some x → ps[i]? = some b → w.ownsRow base 5 1 x b.length (bytesV b))
    (hrow : w.heap[bw]? = some (.cells #[pv, .int .i64 l.length, .bool false] 92 (0, 0)))
    (hb1 : Below w.drew.heap.size w.drew w1) (hown1 : w1.ownsRow w.drew.heap.size 5 1 x b.length (bytesV b)) (hg2 : (w1.alloc (.cells #[x] 40)).grownBy w2 pv.ownBlock) (hown2 : w2.ownsRow base 40 1 v2 (vs.length + 1) (vs ++ [x]))
    (hne : some bw ≠ pv.ownBlock) : WStep w ((w2.setCell ⟨bw, 0, none⟩ v2).setCell ⟨bw, 1, none⟩ (.int .i64 ((l.length : Int) + (b.length : Int)))) base bw (k + 1 + b.length) (some (l ++ b)) := by
  have hn2 : bw < w.heap.size := block_lt hrow
  have hbs : base ≤ w.heap.size := by omega
  have hrow2 : w2.heap[bw]? = some (.cells #[pv, .int .i64 l.length, .bool false] 92 (0, 0)) := (hg2.block bw (by have := hb1.size; simp at this ⊢; omega) hne).trans (row_allocW ((hb1.block bw hn2).trans hrow) _)
  have hown1' : (w1.alloc (.cells #[x] 40)).ownsRow base 40 1 pv vs.length vs := (own_below hown.drew hb1).alloc _
  have key : ∀ (i : Nat) (y : Value) (c : List UInt8), (vs ++ [x])[i]? = some y → (ps ++ [b])[i]? = some c → w2.ownsRow base 5 1 y c.length (bytesV c) := by
    intro i y c hy hc
    have h1 : (w1.alloc (.cells #[x] 40)).ownsRow base 5 1 y c.length (bytesV c) := by
      rcases Nat.lt_or_ge i vs.length with hi | hi
      · rw [List.getElem?_append_left hi] at hy
        rw [List.getElem?_append_left (by omega)] at hc
        exact (own_below (hpc i y c hy hc).drew hb1).alloc _
      · rw [List.getElem?_append_right hi] at hy
        rw [List.getElem?_append_right (by omega)] at hc
        rw [← hvl] at hc
        cases hj : i - vs.length with
        | zero =>
          rw [hj] at hy hc
          simp at hy hc
          subst hy; subst hc
          exact (own_more hown1 (by simpa using hbs)).alloc _
        | succ j => rw [hj] at hy; simp at hy
    exact h1.kept hg2 (own_apart h1 hown1' (by decide))
  refine ⟨⟨hb, v2, ps ++ [b], vs ++ [x], ?_, by rw [List.flatten_append, hfl]; simp, by simp [hvl], by simp; omega, ?_, ?_⟩, ?_, ?_⟩
  · rw [heap_setCell_same _ _ _ _ _ _ (heap_setCell_same _ _ _ _ _ _ hrow2)]
    simp
  · rw [List.length_append]
    exact own_set (own_set hown2 hrow2 (by decide) _ _) (heap_setCell_same _ _ _ _ _ _ hrow2) (by decide) _ _
  · intro i y c hy hc
    exact own_set (own_set (key i y c hy hc) hrow2 (by decide) _ _) (heap_setCell_same _ _ _ _ _ _ hrow2) (by decide) _ _
  · have h0 : Below base w w1 := (Below.refl base w).drew.trans (hb1.mono (by simpa using hbs))
    have h1 := h0.alloc (Nat.le_trans hbs h0.size) (.cells #[x] 40)
    exact ((h1.grown hg2 (Nat.le_trans hbs h1.size) (fun q hq => (hown.lt q hq).1)).setCell hb _).setCell hb _
  · have h0 : Kept WT w w1 := (⟨Nat.le_refl _, fun _ _ _ _ h _ => h⟩ : Kept WT w w.drew).trans (.of_below hb1)
    have h1 := kept_grown (h0.alloc (.cells #[x] 40)) hown1' hg2 (by simp [WT])
    exact (h1.setCell hrow2 (by simp [WT]) _).setCell (heap_setCell_same _ _ _ _ _ _ hrow2) (by simp [WT]) _

set_option maxRecDepth 4000 in
set_option maxHeartbeats 1000000 in
theorem wbytes_some (base bw k : Nat) (l : List UInt8) (v : Value) (b : List UInt8) (hk : k + 1 + b.length ≤ 536870912) (w : World) (h : IsW w base bw k (some l)) (hv : BS w v b) :
    Calls Try.prog 56 #[.pointer (some ⟨bw, 0, none⟩), v] w fun e w' => e = .returned (.pointer (some ⟨bw, 0, none⟩)) ∧ WStep w w' base bw (k + 1 + b.length) (some (l ++ b)) := by
  obtain ⟨hb, pv, ps, vs, hrow, hfl, hvl, hkl, hown, hpc⟩ := h
  have HV := Lib.hid hv
  have HR := Lib.hid hrow
  have HB := Lib.hid hb
  have HF := Lib.hid hfl
  have HVL := Lib.hid hvl
  have HK := Lib.hid hkl
  have HO := Lib.hid hown
  have HP := Lib.hid hpc
  obtain ⟨p, cap, rfl, g1, g2, g3⟩ := hv
  unfold maxLen at g2
  have hc0 : w.cell? ⟨bw, 0, none⟩ = some pv := cell_of_row w bw 0 _ _ _ hrow
  have hc1 : w.cell? ⟨bw, 1, none⟩ = some (.int .i64 l.length) := cell_of_row w bw 1 _ _ _ hrow
  have hc2 : w.cell? ⟨bw, 2, none⟩ = some (.bool false) := cell_of_row w bw 2 _ _ _ hrow
  have hfr := fun j => frozen_of_row w bw j _ _ hrow
  have hl1 : (l.length : Int) + (b.length : Int) ≤ 536870912 := by omega
  have HBL := Lib.hid (show b.length ≤ 1073741824 by omega)
  clear hrow hfl hvl hkl hown hpc g3
  generalize hbn : b.length = n at *
  generalize hln : l.length = m at *
  have HBN := Lib.hid hbn; clear hbn
  have HLN := Lib.hid hln; clear hln
  go_enter Try.func56, Try.ntmps56
  go_wp2_with fail
  have hn2 : bw < w.heap.size := block_lt HR.out
  have HNE : Hid (some bw ≠ pv.ownBlock) := Lib.hid (own_ne HO.out HR.out (by decide))
  have hsum : IntKind.i64.wrap ((m : Int) + (n : Int)) = (m : Int) + (n : Int) := by rw [IntKind.wrap_i64]; omega
  have HVN : Hid (vs.length + 1 ≤ 1099511627776) := Lib.hid (by have := HVL.out; have := HK.out; omega)
  go_region_law (first
    | (go_simp; go_at_call 72; refine (clone_any _ b (by rw [HBN.out]; exact HBL.out) _ HV.out.drew).mono ?_; rintro e w1 ⟨v1, rfl, hown1, hb1⟩; obtain ⟨q1, c1, rfl⟩ := own_form hown1; have hcl0 := hb1.cell (p := ⟨bw, 0, none⟩) hn2; have hcl1 := hb1.cell (p := ⟨bw, 1, none⟩) hn2; have hz1 : bw < w1.heap.size := Nat.lt_of_lt_of_le hn2 hb1.size)
    | (refine step_append_piece rfl _ _ rfl base pv _ _ rfl ((own_below HO.out.drew hb1).alloc _) w1.heap.size _ rfl (new_rowW _ _ _ rfl) rfl HVN.out (by have := HB.out; simp; omega) ?_; intro v2 w2 hown2 hg2 hat2; obtain ⟨q2, c2, rfl⟩ := own_form hown2; have hd0 := hg2.cell ((World.cell?_alloc_lt _ _ ⟨bw, 0, none⟩ hz1).trans (hcl0.trans hc0)) HNE.out; have hd1 := hg2.cell ((World.cell?_alloc_lt _ _ ⟨bw, 1, none⟩ hz1).trans (hcl1.trans hc1)) HNE.out; have hrow2 := (hg2.block bw (by simp; omega) HNE.out).trans (row_allocW ((hb1.block bw hn2).trans HR.out) _); have HR2 := Lib.hid hrow2; have hfz := fun j => frozen_of_row w2 bw j _ _ hrow2; clear hrow2))
  all_goals
    have HC := Lib.hid (wbytes_close (b := b) HB.out HF.out HVL.out (by rw [HLN.out]; exact HK.out) HO.out HP.out (by rw [HLN.out]; exact HR.out) hb1 hown1 hg2 hown2 HNE.out)
    rw [HLN.out, HBN.out] at HC
    clear hown1 hb1 hg2 hown2 hat2 hcl0 hcl1
    go_wp2
    go_ret
    exact ⟨rfl, HC.out⟩
end Go.Proofs.Ytolfekbhlfjniaa

set_option linter.unusedVariables false
set_option linter.unusedSimpArgs false
namespace Go.Proofs.Ytolfekbhlfjniaa
open Go.RowKit

theorem IsW.mono {w : World} {base bw k k' : Nat} {st : Option (List UInt8)} (h : IsW w base bw k st) (hk : k ≤ k') : IsW w base bw k' st := by
  obtain ⟨hb, h⟩ := h
  refine ⟨hb, ?_⟩
  cases st with
  | none => exact h
  | some l =>
    obtain ⟨pv, ps, vs, h1, h2, h3, h4, h5⟩ := h
    exact ⟨pv, ps, vs, h1, h2, h3, by omega, h5⟩
theorem IsW.lt {w : World} {base bw k : Nat} {st : Option (List UInt8)} (h : IsW w base bw k st) : base ≤ bw ∧ bw < w.heap.size := by
  obtain ⟨hb, h⟩ := h
  refine ⟨hb, ?_⟩
  cases st with
  | none => exact block_lt h
  | some l => obtain ⟨pv, ps, vs, h1, _⟩ := h; exact block_lt h1
theorem IsW.below {w w' : World} {base bw k : Nat} {st : Option (List UInt8)} (h : IsW w base bw k st) (hw : Below w.heap.size w w') : IsW w' base bw k st := by
  have hlt := h.lt.2
  obtain ⟨hb, h⟩ := h
  refine ⟨hb, ?_⟩
  cases st with
  | none => exact (hw.block bw hlt).trans h
  | some l =>
    obtain ⟨pv, ps, vs, h1, h2, h3, h4, h5, h6⟩ := h
    exact ⟨pv, ps, vs, (hw.block bw hlt).trans h1, h2, h3, h4, own_below h5 hw, fun i x b hx hb => own_below (h6 i x b hx hb) hw⟩
theorem WStep.refl {w : World} {base bw k : Nat} {st : Option (List UInt8)} (h : IsW w base bw k st) : WStep w w base bw k st := ⟨h, Below.refl _ _, Kept.refl _ _⟩
theorem WStep.mono {w w' : World} {base bw k k' : Nat} {st : Option (List UInt8)} (h : WStep w w' base bw k st) (hk : k ≤ k') : WStep w w' base bw k' st := ⟨h.1.mono hk, h.2⟩
theorem WStep.trans {a w w' : World} {base bw k k' : Nat} {st st' : Option (List UInt8)} (h : WStep a w base bw k st) (h' : WStep w w' base bw k' st') : WStep a w' base bw k' st' := ⟨h'.1, h.2.1.trans h'.2.1, h.2.2.trans h'.2.2⟩
theorem WStep.pre {a w w' : World} {base bw k : Nat} {st : Option (List UInt8)} (h : Below a.heap.size a w) (hb : base ≤ a.heap.size) (h' : WStep w w' base bw k st) : WStep a w' base bw k st :=
  ⟨h'.1, (h.mono hb).trans h'.2.1, (Kept.of_below h).trans h'.2.2⟩

theorem wbytes_any (base bw k : Nat) (st : Option (List UInt8)) (v : Value) (b : List UInt8) (hk : k + 1 + b.length ≤ 536870912) (w : World) (h : IsW w base bw k st) (hv : BS w v b) :
    Calls Try.prog 56 #[.pointer (some ⟨bw, 0, none⟩), v] w fun e w' => e = .returned (.pointer (some ⟨bw, 0, none⟩)) ∧ WStep w w' base bw (k + 1 + b.length) (Wire.wBytes st b) := by
  cases st with
  | some l => exact wbytes_some base bw k l v b hk w h hv
  | none =>
    have H := Lib.hid (h.mono (show k ≤ k + 1 + b.length by omega))
    have hrow := h.2
    have hc := fun j => cell_of_row w bw j _ _ _ hrow
    obtain ⟨p, cap, rfl, -, -, -⟩ := hv
    clear h hrow
    generalize b.length = n at *
    go_enter Try.func56, Try.ntmps56
    go_wp2
    go_ret
    exact ⟨rfl, WStep.refl H.out⟩

/-- a slice of bytes that a writer (of blocks from base on) leaves alone -/
def BK (w : World) (base : Nat) (v : Value) (l : List UInt8) : Prop :=
  BS w v l ∧ (l ≠ [] → ∀ b, v.ownBlock = some b → b < base ∨ ∃ (cs : Array Value) (t : TypeId) (fr : Nat × Nat), w.heap[b]? = some (Obj.cells cs t fr) ∧ t ∉ WT)
theorem BK.nil (w : World) (base : Nat) : BK w base (.slice none 0 0) [] := ⟨BS.nil w, fun h => absurd rfl h⟩
theorem BK.step {w w' : World} {base bw k : Nat} {st : Option (List UInt8)} {v : Value} {l : List UInt8} (h : BK w base v l) (hw : WStep w w' base bw k st) : BK w' base v l := by
  obtain ⟨⟨p, cap, rfl, h1, h2, h3⟩, h4⟩ := h
  have key : l ≠ [] → ∀ b, (Value.slice p l.length cap).ownBlock = some b → (∀ j, b < w.heap.size → w'.cell? ⟨b, j, none⟩ = w.cell? ⟨b, j, none⟩) ∧ (b < base ∨ ∃ (cs : Array Value) (t : TypeId) (fr : Nat × Nat), w'.heap[b]? = some (Obj.cells cs t fr) ∧ t ∉ WT) := by
    intro hl b hb
    rcases h4 hl b hb with hlt | ⟨cs, t, fr, hh, ht⟩
    · exact ⟨fun j _ => hw.2.1.cell (p := ⟨b, j, none⟩) hlt, .inl hlt⟩
    · have := hw.2.2.block b cs t fr hh ht
      exact ⟨fun j _ => by rw [cell_of_row w' b j _ _ _ this, cell_of_row w b j _ _ _ hh], .inr ⟨cs, t, fr, this, ht⟩⟩
  refine ⟨⟨p, cap, rfl, h1, h2, fun hl => ?_⟩, fun hl b hb => (key hl b hb).2⟩
  obtain ⟨b, o, rfl, hb, hc⟩ := h3 hl
  exact ⟨b, o, rfl, Nat.lt_of_lt_of_le hb hw.2.2.size, fun i x hx => ((key hl b rfl).1 _ hb).trans (hc i x hx)⟩
theorem BK.below {w w' : World} {base : Nat} {v : Value} {l : List UInt8} (h : BK w base v l) (hb : Below w.heap.size w w') : BK w' base v l := by
  refine ⟨h.1.below hb, fun hl b hv => ?_⟩
  rcases h.2 hl b hv with hlt | ⟨cs, t, fr, hh, ht⟩
  · exact .inl hlt
  · exact .inr ⟨cs, t, fr, (hb.block b (block_lt hh)).trans hh, ht⟩
theorem BK.of_row {w : World} {base g : Nat} {o m c : Nat} {l : List UInt8} {cs : Array Value} {t : TypeId} {fr : Nat × Nat} (h : BS w (.slice (some ⟨g, o, none⟩) m c) l) (hg : w.heap[g]? = some (.cells cs t fr)) (ht : t ∉ WT) : BK w base (.slice (some ⟨g, o, none⟩) m c) l :=
  ⟨h, fun _ b hb => by injection hb with hb; simp at hb; subst hb; exact .inr ⟨cs, t, fr, hg, ht⟩⟩
theorem BK.of_own {w : World} {base b0 n : Nat} {v : Value} {l : List UInt8} (h : w.ownsRow b0 5 1 v n (bytesV l)) : BK w base v l := by
  have hbs := BS.of_own h
  refine ⟨hbs, fun _ b hb => ?_⟩
  rcases h.2 with ⟨rfl, _⟩ | ⟨g, cap, cur, rfl, _, hh, _⟩
  · cases hb
  · injection hb with hb; simp at hb; subst hb; exact .inr ⟨_, _, _, hh, by decide⟩
theorem BK.of_old {w : World} {base : Nat} {v : Value} {l : List UInt8} (h : BS w v l) (hb : w.heap.size ≤ base) : BK w base v l := by
  obtain ⟨p, cap, rfl, h1, h2, h3⟩ := h
  refine ⟨⟨p, cap, rfl, h1, h2, h3⟩, fun hl b hv => ?_⟩
  obtain ⟨g, o, rfl, hg, _⟩ := h3 hl
  injection hv with hv; simp at hv; subst hv
  exact .inl (by omega)
/-! ### Number -/
def rowB (l : List UInt8) : Array Value := (bytesV l).toArray
theorem rowB_at {l : List UInt8} {j : Nat} (h : j < l.length) : (rowB l)[j]? = some (.int .u8 ((l.getD j 0).toNat : Int)) := by
  unfold rowB; simp [bytesV, h, List.getD_eq_getElem?_getD]
theorem rowB_set (l : List UInt8) (j : Nat) (x : UInt8) : (rowB l).setIfInBounds j (.int .u8 (x.toNat : Int)) = rowB (l.set j x) := by
  unfold rowB bytesV; simp [List.map_set]
theorem BS.of_row {w : World} {g : Nat} {L : List UInt8} {t : TypeId} {fr : Nat × Nat} (h : w.heap[g]? = some (.cells (rowB L) t fr)) (o m cap : Nat) (hm : o + m ≤ L.length) (hc : m ≤ cap) (hcap : cap ≤ maxLen) :
    BS w (.slice (some ⟨g, o, none⟩) m cap) ((L.drop o).take m) := by
  have hl : ((L.drop o).take m).length = m := by rw [List.length_take, List.length_drop]; omega
  refine ⟨_, cap, by rw [hl], by omega, hcap, fun _ => ⟨g, o, rfl, block_lt h, fun i x hx => ?_⟩⟩
  have hi : i < m := by have := (List.getElem?_eq_some_iff.1 hx).1; omega
  rw [List.getElem?_take_of_lt hi, List.getElem?_drop] at hx
  rw [cell_of_row w g _ _ _ _ h]
  unfold rowB
  rw [List.getElem?_toArray, bytesV_at, hx]
  rfl
def rowE (N j : Nat) : List UInt8 := List.replicate (8 - j) 0 ++ Wire.be N j
theorem rowE_length (N j : Nat) (hj : j ≤ 8) : (rowE N j).length = 8 := by unfold rowE; rw [List.length_append, List.length_replicate, Wire.be_length]; omega
theorem rowE_set (N j : Nat) (hj : j < 8) : (rowE N j).set (7 - j) (UInt8.ofNat (N / 256 ^ j % 256)) = rowE N (j + 1) := by
  unfold rowE
  rw [Wire.be_cons]
  have h8 : 8 - j = (7 - j) + 1 := by omega
  have h7 : 8 - (j + 1) = 7 - j := by omega
  rw [h8, h7, List.replicate_succ', List.append_assoc, List.set_append_right _ _ (by simp)]
  simp

theorem byte_atW (N j : Nat) : Value.int .u8 ((N : Int) / 2 ^ (8 * j) % 256) = .int .u8 (((UInt8.ofNat (N / 256 ^ j % 256)).toNat : Nat) : Int) := by
  have h : (UInt8.ofNat (N / 256 ^ j % 256)).toNat = N / 256 ^ j % 256 := by rw [UInt8.toNat_ofNat']; omega
  rw [h, show (2 : Int) ^ (8 * j) = ((256 ^ j : Nat) : Int) from by rw [Int.pow_mul]; simp]
  simp
theorem wnum_at {st : Option (List UInt8)} {N s : Nat} (hs : Wire.maySize (s : Int) = true) : Wire.wNum st N (s : Int) = if decide (N < 256 ^ s) = true then Wire.wBytes st (Wire.be N s) else none := by
  unfold Wire.wNum Wire.wBytes
  rw [Int.toNat_natCast]
  by_cases h : N < 256 ^ s
  · rw [if_pos ⟨hs, h⟩, if_pos (by simpa using h)]
  · rw [if_neg (fun h' => h h'.2), if_neg (by simpa using h)]
theorem wnum_far {st : Option (List UInt8)} {N : Nat} {s : Int} (hs : Wire.maySize s = false) : Wire.wNum st N s = none := by
  unfold Wire.wNum
  rw [if_neg (by simp [hs])]
theorem row_bs {w : World} {g : Nat} {N s t cap : Nat} {ty : TypeId} {fr : Nat × Nat} (h : w.heap[g]? = some (.cells (rowB (Wire.be N (s + t))) ty fr)) (hc : s ≤ cap) (hcap : cap ≤ maxLen) : BS w (.slice (some ⟨g, 0, none⟩) s cap) ((Wire.be N (s + t)).take s) := by
  have := BS.of_row h 0 s cap (by rw [Wire.be_length]; omega) hc hcap
  simpa using this
theorem row_bs' {w : World} {g : Nat} {N s t cap : Nat} {ty : TypeId} {fr : Nat × Nat} (h : w.heap[g]? = some (.cells (rowB (Wire.be N (s + t))) ty fr)) (hc : t ≤ cap) (hcap : cap ≤ maxLen) : BS w (.slice (some ⟨g, s, none⟩) t cap) (Wire.be N t) := by
  have := BS.of_row h s t cap (by rw [Wire.be_length]; omega) hc hcap
  rwa [Wire.be_drop, List.take_of_length_le (by rw [Wire.be_length]; omega)] at this
theorem zeros_bs {w : World} {g s : Nat} {ty : TypeId} {fr : Nat × Nat} (h : w.heap[g]? = some (.cells (rowB (List.replicate s 0)) ty fr)) (hcap : s ≤ maxLen) : BS w (.slice (some ⟨g, 0, none⟩) s s) (List.replicate s 0) := by
  have := BS.of_row h 0 s s (by simp) (Nat.le_refl _) hcap
  simpa using this

set_option maxRecDepth 4000 in
set_option maxHeartbeats 1000000 in
theorem wnumber_any (base bw k : Nat) (st : Option (List UInt8)) (N : Nat) (hN : N < 18446744073709551616) (s : Int) (hk : k + 9 ≤ 536870912) (w : World) (h : IsW w base bw k st) :
    Calls Try.prog 54 #[.pointer (some ⟨bw, 0, none⟩), .int .u64 (N : Int), .int .i64 s] w fun e w' => e = .returned (.pointer (some ⟨bw, 0, none⟩)) ∧ WStep w w' base bw (k + 9) (Wire.wNum st N s) := by
  have HI := Lib.hid h
  have hlt := h.lt
  have HLT := Lib.hid hlt
  clear h hlt
  go_enter Try.func54, Try.ntmps54
  go_wp2
  go_loopw [10] (fun i wr => ∃ j : Nat, j ≤ 8 ∧ i = .int .i64 j ∧ wr = w.alloc (.cells (rowB (rowE N j)) 122)) (fun i _ => 8 - (intOf i).toNat)
  case atStart => exact ⟨0, by omega, rfl, rfl⟩
  case round =>
    obtain ⟨j, hj, rfl, rfl⟩ := hrel
    by_cases hj8 : j < 8
    · have hck := rowB_at (l := rowE N j) (j := 7 - j) (by rw [rowE_length N j hj]; omega)
      go_wp2
      go_roundw
      case rel => exact ⟨j + 1, by omega, by go_num, by rw [byte_atW, rowB_set, rowE_set N j hj8]⟩
      case measure => simp [intOf]; omega
    · obtain rfl : j = 8 := by omega
      have hrow : rowE N 8 = Wire.be N 8 := by unfold rowE; simp
      rw [hrow]
      have hH : (w.alloc (.cells (rowB (Wire.be N 8)) 122)).heap[w.heap.size]? = some (.cells (rowB (Wire.be N 8)) 122 (0, 0)) := new_rowW _ _ _ rfl
      have HH := Lib.hid hH
      have HF := Lib.hid (HI.out.below (Below.refl w.heap.size w |>.alloc (Nat.le_refl _) (.cells (rowB (Wire.be N 8)) 122)))
      clear hH hrow
      have hN8 : Hid (N < 256 ^ 8) := Lib.hid (by simpa using hN)
      by_cases h1 : s = 1
      · subst h1
        have HW : Hid (Wire.wNum st N ((1 : Nat) : Int) = _) := Lib.hid (wnum_at (by decide))
        have HD := Lib.hid (Wire.ahead_zero (n := N) (s := 7) (t := 1) hN8.out)
        have hmk : ∀ W : World, (Instr.makeSlice 40 (.int .i64 7) (.int .i64 7)).run Try.prog W = .ok (.slice (some ⟨W.heap.size, 0, none⟩) 7 7) (W.alloc (.cells (rowB (List.replicate 7 0)) 5)) := fun _ => by kernel_rfl
        generalize decide (N < 256 ^ 1) = q at *
        go_wp2_with fail
        refine (equal_any _ _ ((Wire.be N (7 + 1)).take 7) (List.replicate 7 0) _ ((row_bs (cap := 8) HH.out (by omega) (by decide)).alloc _) (zeros_bs (new_rowW _ _ (w.heap.size + 1) (by simp)) (by decide))).mono ?_
        rintro e w1 ⟨rfl, rfl⟩
        rw [HD.out]
        have HB := Lib.hid (((Below.refl w.heap.size w).alloc (Nat.le_refl _) (.cells (rowB (Wire.be N 8)) 122)).alloc (by simp) (.cells (rowB (List.replicate 7 0)) 5))
        have HF2 := Lib.hid (HI.out.below HB.out)
        cases q
        · go_wp2_with fail
          refine (wfail_any base bw k st _ HF2.out).mono ?_
          rintro e w1 ⟨rfl, hw1⟩
          have HS := Lib.hid (WStep.pre HB.out (by have := HLT.out; omega) (hw1 (k + 9)))
          clear hw1
          go_wp2
          go_ret
          exact ⟨rfl, by rw [show ((1 : Int)) = ((1 : Nat) : Int) from rfl, HW.out]; exact HS.out⟩
        · go_wp2_with fail
          refine (wbytes_any base bw k st _ (Wire.be N 1) (by rw [Wire.be_length]; omega) _ HF2.out ((row_bs' (s := 7) HH.out (by omega) (by decide)).alloc _)).mono ?_
          rintro e w1 ⟨rfl, hw1⟩
          have HS := Lib.hid ((WStep.pre HB.out (by have := HLT.out; omega) hw1).mono (show _ ≤ k + 9 by rw [Wire.be_length]; omega))
          clear hw1
          go_wp2
          go_ret
          exact ⟨rfl, by rw [show ((1 : Int)) = ((1 : Nat) : Int) from rfl, HW.out]; exact HS.out⟩
      by_cases h2 : s = 2
      · subst h2
        have HW : Hid (Wire.wNum st N ((2 : Nat) : Int) = _) := Lib.hid (wnum_at (by decide))
        have HD := Lib.hid (Wire.ahead_zero (n := N) (s := 6) (t := 2) hN8.out)
        have hmk : ∀ W : World, (Instr.makeSlice 40 (.int .i64 6) (.int .i64 6)).run Try.prog W = .ok (.slice (some ⟨W.heap.size, 0, none⟩) 6 6) (W.alloc (.cells (rowB (List.replicate 6 0)) 5)) := fun _ => by kernel_rfl
        generalize decide (N < 256 ^ 2) = q at *
        go_wp2_with fail
        refine (equal_any _ _ ((Wire.be N (6 + 2)).take 6) (List.replicate 6 0) _ ((row_bs (cap := 8) HH.out (by omega) (by decide)).alloc _) (zeros_bs (new_rowW _ _ (w.heap.size + 1) (by simp)) (by decide))).mono ?_
        rintro e w1 ⟨rfl, rfl⟩
        rw [HD.out]
        have HB := Lib.hid (((Below.refl w.heap.size w).alloc (Nat.le_refl _) (.cells (rowB (Wire.be N 8)) 122)).alloc (by simp) (.cells (rowB (List.replicate 6 0)) 5))
        have HF2 := Lib.hid (HI.out.below HB.out)
        cases q
        · go_wp2_with fail
          refine (wfail_any base bw k st _ HF2.out).mono ?_
          rintro e w1 ⟨rfl, hw1⟩
          have HS := Lib.hid (WStep.pre HB.out (by have := HLT.out; omega) (hw1 (k + 9)))
          clear hw1
          go_wp2
          go_ret
          exact ⟨rfl, by rw [show ((2 : Int)) = ((2 : Nat) : Int) from rfl, HW.out]; exact HS.out⟩
        · go_wp2_with fail
          refine (wbytes_any base bw k st _ (Wire.be N 2) (by rw [Wire.be_length]; omega) _ HF2.out ((row_bs' (s := 6) HH.out (by omega) (by decide)).alloc _)).mono ?_
          rintro e w1 ⟨rfl, hw1⟩
          have HS := Lib.hid ((WStep.pre HB.out (by have := HLT.out; omega) hw1).mono (show _ ≤ k + 9 by rw [Wire.be_length]; omega))
          clear hw1
          go_wp2
          go_ret
          exact ⟨rfl, by rw [show ((2 : Int)) = ((2 : Nat) : Int) from rfl, HW.out]; exact HS.out⟩
      by_cases h4 : s = 4
      · subst h4
        have HW : Hid (Wire.wNum st N ((4 : Nat) : Int) = _) := Lib.hid (wnum_at (by decide))
        have HD := Lib.hid (Wire.ahead_zero (n := N) (s := 4) (t := 4) hN8.out)
        have hmk : ∀ W : World, (Instr.makeSlice 40 (.int .i64 4) (.int .i64 4)).run Try.prog W = .ok (.slice (some ⟨W.heap.size, 0, none⟩) 4 4) (W.alloc (.cells (rowB (List.replicate 4 0)) 5)) := fun _ => by kernel_rfl
        generalize decide (N < 256 ^ 4) = q at *
        go_wp2_with fail
        refine (equal_any _ _ ((Wire.be N (4 + 4)).take 4) (List.replicate 4 0) _ ((row_bs (cap := 8) HH.out (by omega) (by decide)).alloc _) (zeros_bs (new_rowW _ _ (w.heap.size + 1) (by simp)) (by decide))).mono ?_
        rintro e w1 ⟨rfl, rfl⟩
        rw [HD.out]
        have HB := Lib.hid (((Below.refl w.heap.size w).alloc (Nat.le_refl _) (.cells (rowB (Wire.be N 8)) 122)).alloc (by simp) (.cells (rowB (List.replicate 4 0)) 5))
        have HF2 := Lib.hid (HI.out.below HB.out)
        cases q
        · go_wp2_with fail
          refine (wfail_any base bw k st _ HF2.out).mono ?_
          rintro e w1 ⟨rfl, hw1⟩
          have HS := Lib.hid (WStep.pre HB.out (by have := HLT.out; omega) (hw1 (k + 9)))
          clear hw1
          go_wp2
          go_ret
          exact ⟨rfl, by rw [show ((4 : Int)) = ((4 : Nat) : Int) from rfl, HW.out]; exact HS.out⟩
        · go_wp2_with fail
          refine (wbytes_any base bw k st _ (Wire.be N 4) (by rw [Wire.be_length]; omega) _ HF2.out ((row_bs' (s := 4) HH.out (by omega) (by decide)).alloc _)).mono ?_
          rintro e w1 ⟨rfl, hw1⟩
          have HS := Lib.hid ((WStep.pre HB.out (by have := HLT.out; omega) hw1).mono (show _ ≤ k + 9 by rw [Wire.be_length]; omega))
          clear hw1
          go_wp2
          go_ret
          exact ⟨rfl, by rw [show ((4 : Int)) = ((4 : Nat) : Int) from rfl, HW.out]; exact HS.out⟩
      by_cases h8 : s = 8
      · subst h8
        have HW : Hid (Wire.wNum st N ((8 : Nat) : Int) = _) := Lib.hid (wnum_at (by decide))
        have HD := Lib.hid (Wire.ahead_zero (n := N) (s := 0) (t := 8) hN8.out)
        have hmk : ∀ W : World, (Instr.makeSlice 40 (.int .i64 0) (.int .i64 0)).run Try.prog W = .ok (.slice (some ⟨W.heap.size, 0, none⟩) 0 0) (W.alloc (.cells (rowB (List.replicate 0 0)) 5)) := fun _ => by kernel_rfl
        generalize decide (N < 256 ^ 8) = q at *
        go_wp2_with fail
        refine (equal_any _ _ ((Wire.be N (0 + 8)).take 0) (List.replicate 0 0) _ ((row_bs (cap := 8) HH.out (by omega) (by decide)).alloc _) (zeros_bs (new_rowW _ _ (w.heap.size + 1) (by simp)) (by decide))).mono ?_
        rintro e w1 ⟨rfl, rfl⟩
        rw [HD.out]
        have HB := Lib.hid (((Below.refl w.heap.size w).alloc (Nat.le_refl _) (.cells (rowB (Wire.be N 8)) 122)).alloc (by simp) (.cells (rowB (List.replicate 0 0)) 5))
        have HF2 := Lib.hid (HI.out.below HB.out)
        cases q
        · go_wp2_with fail
          refine (wfail_any base bw k st _ HF2.out).mono ?_
          rintro e w1 ⟨rfl, hw1⟩
          have HS := Lib.hid (WStep.pre HB.out (by have := HLT.out; omega) (hw1 (k + 9)))
          clear hw1
          go_wp2
          go_ret
          exact ⟨rfl, by rw [show ((8 : Int)) = ((8 : Nat) : Int) from rfl, HW.out]; exact HS.out⟩
        · go_wp2_with fail
          refine (wbytes_any base bw k st _ (Wire.be N 8) (by rw [Wire.be_length]; omega) _ HF2.out ((row_bs' (s := 0) HH.out (by omega) (by decide)).alloc _)).mono ?_
          rintro e w1 ⟨rfl, hw1⟩
          have HS := Lib.hid ((WStep.pre HB.out (by have := HLT.out; omega) hw1).mono (show _ ≤ k + 9 by rw [Wire.be_length]; omega))
          clear hw1
          go_wp2
          go_ret
          exact ⟨rfl, by rw [show ((8 : Int)) = ((8 : Nat) : Int) from rfl, HW.out]; exact HS.out⟩
      have hs1 : (s == 1) = false := by simpa using h1
      have hs2 : (s == 2) = false := by simpa using h2
      have hs4 : (s == 4) = false := by simpa using h4
      have hs8 : (s == 8) = false := by simpa using h8
      have HW : Hid (Wire.wNum st N s = none) := Lib.hid (wnum_far (by unfold Wire.maySize; simp [h1, h2, h4, h8]))
      clear h1 h2 h4 h8
      go_wp2_with fail
      refine (wfail_any base bw k st _ HF.out).mono ?_
      rintro e w1 ⟨rfl, hw1⟩
      have HS := Lib.hid (WStep.pre ((Below.refl w.heap.size w).alloc (Nat.le_refl _) _) (by have := HLT.out; omega) (hw1 (k + 9)))
      rw [← HW.out] at HS
      clear hw1
      go_wp2
      go_ret
      exact ⟨rfl, HS.out⟩
end Go.Proofs.Ytolfekbhlfjniaa

set_option linter.unusedVariables false
set_option linter.unusedSimpArgs false
namespace Go.Proofs.Ytolfekbhlfjniaa
open Go.RowKit

def u64 (n : Int) : Nat := (n % 18446744073709551616).toNat
theorem u64_lt (n : Int) : u64 n < 18446744073709551616 := by unfold u64; omega
theorem u64_eq (n : Int) : IntKind.u64.wrap n = ((u64 n : Nat) : Int) := by rw [IntKind.wrap_u64]; unfold u64; omega
theorem u64_nat (N : Nat) (h : N < 18446744073709551616) : u64 N = N := by unfold u64; omega

set_option maxHeartbeats 400000 in
theorem wint_any (base bw k : Nat) (st : Option (List UInt8)) (n : Int) (hk : k + 9 ≤ 536870912) (w : World) (h : IsW w base bw k st) :
    Calls Try.prog 84 #[.pointer (some ⟨bw, 0, none⟩), .int .i64 n] w fun e w' => e = .returned (.pointer (some ⟨bw, 0, none⟩)) ∧ WStep w w' base bw (k + 9) (Wire.wNum st (u64 n) 8) := by
  have HC := Lib.hid (wnumber_any base bw k st (u64 n) (u64_lt n) 8 hk w h)
  have HU := Lib.hid (u64_eq n)
  clear h
  go_enter Try.func84, Try.ntmps84
  go_wp2_with fail
  refine Calls.mono (by rw [HU.out]; exact HC.out) ?_
  rintro e w1 ⟨rfl, hw1⟩
  go_wp2
  go_ret
  exact ⟨rfl, hw1⟩

theorem conv_text (W : World) (S : ByteArray) (hS : S.size ≤ maxLen) (base : Nat) : ∃ (v : Value) (w1 : World), (convert 9 40 (.string S)).run Try.prog W = .ok v w1 ∧ BK w1 base v S.data.toList ∧ Below W.heap.size W w1 ∧ ∃ q c, v = .slice q S.size c := by
  refine ⟨_, _, run_bytes_of_string (P := Try.prog) W 9 40 5 S Try.underlying9 Try.underlying40 Try.underlying5, ?_, (Below.refl _ _).drew.alloc (by simp) _, _, _, rfl⟩
  have hl : S.data.toList.length = S.size := by show S.data.toList.length = S.data.size; simp
  have hg : (W.drew.alloc (.cells (bytesRow S (grownCap W S.size 0 5)) 5 ((bytesRow S (grownCap W S.size 0 5)).size, (bytesRow S (grownCap W S.size 0 5)).size + 1))).heap[W.heap.size]? = _ := new_rowW _ _ _ rfl
  refine BK.of_row ⟨_, _, by rw [hl], by rw [hl]; exact grownCap_ge _ _ _ _, grownCap_le_maxLen _ _ _ _ hS, fun _ => ⟨_, 0, rfl, block_lt hg, fun i x hx => ?_⟩⟩ hg (by decide)
  have hi : i < S.data.size := by
    have := (List.getElem?_eq_some_iff.1 hx).1
    simpa using this
  rw [cell_of_row _ _ _ _ _ _ hg, Nat.zero_add, bytesRow_at _ _ _ hi]
  have : S.data[i] = x := by
    rw [List.getElem?_eq_getElem (by simpa using hi)] at hx
    injection hx
  rw [this]

theorem IsW.pieces {w : World} {base bw k : Nat} {l : List UInt8} (h : IsW w base bw k (some l)) :
    ∃ (pv : Value) (ps : List (List UInt8)), w.heap[bw]? = some (.cells #[pv, .int .i64 l.length, .bool false] 92 (0, 0)) ∧ ps.flatten = l ∧ PcS w pv ps ∧ l.length ≤ k := by
  obtain ⟨_, pv, ps, vs, h1, h2, h3, h4, h5, h6⟩ := h
  refine ⟨pv, ps, h1, h2, ?_, by omega⟩
  obtain ⟨hlen, hor⟩ := h5
  rcases hor with ⟨rfl, h0⟩ | ⟨g, cap, cur, rfl, hg, hh, hnc, hcm, hcs, htk⟩
  · have : ps = [] := List.length_eq_zero_iff.1 (by omega)
    subst this
    exact ⟨none, 0, rfl, Nat.le_refl _, Nat.zero_le _, fun h => absurd rfl h⟩
  · refine ⟨_, cap, by rw [h3], by omega, hcm, fun _ => ⟨g, 0, rfl, fun i b hb => ?_⟩⟩
    have hi : i < ps.length := (List.getElem?_eq_some_iff.1 hb).1
    have hx : vs[i]? = some vs[i] := List.getElem?_eq_getElem (by omega)
    refine ⟨vs[i], ?_, BS.of_own (h6 i _ b hx hb)⟩
    rw [cell_of_row w g _ cur _ _ hh, Nat.zero_add]
    have h1 : (cur.toList.take (vs.length * 1))[i]? = some vs[i] := by rw [htk, hx]
    rw [List.getElem?_take_of_lt (by omega)] at h1
    simpa using h1

set_option maxHeartbeats 400000 in
theorem wend_some (base bw k : Nat) (l : List UInt8) (hk : k ≤ 1073741824) (w : World) (h : IsW w base bw k (some l)) :
    Calls Try.prog 57 #[.pointer (some ⟨bw, 0, none⟩)] w fun e w' => ∃ v, e = .returned (.tuple #[v, .int .i64 0]) ∧ w'.ownsRow w.heap.size 5 1 v l.length (bytesV l) ∧ Below w.heap.size w w' := by
  obtain ⟨pv, ps, hrow, hfl, hpc, hl⟩ := h.pieces
  have hc := fun j => cell_of_row w bw j _ _ _ hrow
  have HPC := Lib.hid hpc
  obtain ⟨q, c, rfl, -⟩ := hpc
  subst hfl
  clear hrow h
  have HL := Lib.hid hl; clear hl
  go_enter Try.func57, Try.ntmps57
  go_wp2_with fail
  refine (concat_any _ ps (by have := HL.out; omega) w HPC.out).mono ?_
  rintro e w1 ⟨v, rfl, hown, hb⟩
  have HO := Lib.hid hown; clear hown
  go_wp2
  go_ret2
  exact ⟨v, rfl, HO.out, hb⟩

set_option maxHeartbeats 400000 in
theorem wend_none (base bw k : Nat) (w : World) (h : IsW w base bw k none) :
    Calls Try.prog 57 #[.pointer (some ⟨bw, 0, none⟩)] w fun e w' => e = .returned (.tuple #[.slice none 0 0, .int .i64 2]) ∧ w = w' := by
  have hc := fun j => cell_of_row w bw j _ _ _ h.2
  clear h
  go_enter Try.func57, Try.ntmps57
  go_wp2
  go_ret2
  exact ⟨rfl, rfl⟩
end Go.Proofs.Ytolfekbhlfjniaa

set_option linter.unusedVariables false
set_option linter.unusedSimpArgs false
namespace Go.Proofs.Ytolfekbhlfjniaa
open Go.RowKit

theorem new_writer (w : World) : IsW (w.alloc (.cells #[.slice none 0 0, .int .i64 0, .bool false] 92 (0, 0))) w.heap.size w.heap.size 0 (some []) :=
  ⟨Nat.le_refl _, .slice none 0 0, [], [], new_rowW _ _ _ rfl, rfl, rfl, Nat.le_refl _, World.ownsRow_nil _ _ _ _, fun i x b h => by simp at h⟩
theorem i64_bdW {n : Int} (h : (Lit.int .i64 n).wf = true) : -9223372036854775808 ≤ n ∧ n ≤ 9223372036854775807 := by
  simpa [Lit.wf, IntKind.min, IntKind.max, IntKind.signed, IntKind.bits] using h
theorem u64_bdW {n : Int} (h : (Lit.int .u64 n).wf = true) : 0 ≤ n ∧ n ≤ 18446744073709551615 := by
  simpa [Lit.wf, IntKind.min, IntKind.max, IntKind.signed, IntKind.bits] using h
theorem ballocW {a w : World} (h : Below a.heap.size a w) (o : Obj) : Below a.heap.size a (w.alloc o) := h.alloc h.size o
theorem below_callW {a w w' : World} (h : Below a.heap.size a w) (hx : Below w.heap.size w w') : Below a.heap.size a w' := h.trans (hx.mono h.size)
end Go.Proofs.Ytolfekbhlfjniaa
