/- Contracts of the library's bytes.Clone, bytes.Equal, slices.Grow and slices.Concat at bytes. Plain definitions and facts on numbers as bytes; no program in sight. Contracts of package wire's Writer. -/
import Derived.Test.YtadabjkhiaidcaaDsl1
import GoSem.Core.Value
import Derived.Test.YtadabjkhiaidcaaDsl3
import Derived.Deep.RegionHeld3
import Derived.Deep.RegionLaw
import Derived.Deep.RegionWith

section
set_option linter.unusedVariables false
set_option linter.unusedSimpArgs false
namespace Go.Proofs.Ytadabjkhiaidcaa
open Go.RowKit

theorem nil_eq (w : World) (a : Option Addr) (n c n' c' : Nat) : (binOp .eql 113 (.slice a n c) (.slice none n' c')).run Try.prog w = .ok (.bool a.isNone) w := Lib.run_eql_slice_nil w _ _ a n c n' c' Try.underlying113
theorem own_of_row {w : World} {base e g : Nat} (hg : w.heap[g]? = some (.cells #[] e (0, 0))) (hb : base ≤ g) : w.ownsRow base e 1 (.slice (some ⟨g, 0, none⟩) 0 0) 0 [] :=
  ⟨rfl, .inr ⟨g, 0, #[], rfl, hb, hg, Nat.le_refl _, Nat.zero_le _, rfl, rfl⟩⟩

def PcS (w : World) (v : Value) (ps : List (List UInt8)) : Prop :=
  ∃ (p : Option Addr) (cap : Nat), v = .slice p ps.length cap ∧ ps.length ≤ cap ∧ cap ≤ maxLen ∧
    (ps ≠ [] → ∃ g o, p = some ⟨g, o, none⟩ ∧ ∀ i b, ps[i]? = some b → ∃ x, w.cell? ⟨g, o + i, none⟩ = some x ∧ BS w x b)
theorem PcS.below {w w' : World} {v : Value} {ps : List (List UInt8)} (h : PcS w v ps) (hb : Below w.heap.size w w') : PcS w' v ps := by
  obtain ⟨p, cap, h1, h2, h3, h4⟩ := h
  refine ⟨p, cap, h1, h2, h3, fun hl => ?_⟩
  obtain ⟨g, o, e, hc⟩ := h4 hl
  refine ⟨g, o, e, fun i b hi => ?_⟩
  obtain ⟨x, hx, hbs⟩ := hc i b hi
  exact ⟨x, (hb.cell (p := ⟨g, o + i, none⟩) (cell_blockW hx)).trans hx, hbs.below hb⟩
theorem take_at {α : Type} {l : List α} {k : Nat} {x : α} (h : l[k]? = some x) : l.take (k + 1) = l.take k ++ [x] := by
  obtain ⟨hk, hx⟩ := List.getElem?_eq_some_iff.1 h
  rw [List.take_add_one, h]
  rfl

end Go.Proofs.Ytadabjkhiaidcaa
end

section
namespace Go.Proofs.Ytadabjkhiaidcaa.Wire

/-- a number of a size: its highest byte first -/
def be : Nat → Nat → List UInt8
  | _, 0 => []
  | n, k + 1 => be (n / 256) k ++ [UInt8.ofNat (n % 256)]
def bstep (a : Nat) (c : UInt8) : Nat := 256 * a + c.toNat
/-- what bytes come to -/
def ofBe (l : List UInt8) : Nat := l.foldl bstep 0
def maySize (s : Int) : Bool := decide (s = 1) || decide (s = 2) || decide (s = 4) || decide (s = 8)

/-- A writer: what was put; none: it failed. -/
def wNum (st : Option (List UInt8)) (n : Nat) (s : Int) : Option (List UInt8) :=
  if maySize s = true ∧ n < 256 ^ s.toNat then st.map (· ++ be n s.toNat) else none
def wBytes (st : Option (List UInt8)) (b : List UInt8) : Option (List UInt8) := st.map (· ++ b)
def wBlob (st : Option (List UInt8)) (b : List UInt8) : Option (List UInt8) :=
  if b.length ≤ 16777216 then wBytes (wNum st b.length 4) b else none

theorem be_length (n k : Nat) : (be n k).length = k := by
  induction k generalizing n with
  | zero => rfl
  | succ k ih => simp [be, ih]
theorem ofBe_snoc (l : List UInt8) (c : UInt8) : ofBe (l ++ [c]) = 256 * ofBe l + c.toNat := by
  unfold ofBe; rw [List.foldl_append]; simp only [List.foldl_cons, List.foldl_nil, bstep]
theorem ofBe_be (n k : Nat) : ofBe (be n k) = n % 256 ^ k := by
  induction k generalizing n with
  | zero => simp [be, ofBe, Nat.mod_one]
  | succ k ih =>
    simp only [be]
    rw [ofBe_snoc, ih, Nat.pow_succ, Nat.mul_comm (256 ^ k) 256, Nat.mod_mul]
    have : (UInt8.ofNat (n % 256)).toNat = n % 256 := by rw [UInt8.toNat_ofNat']; omega
    rw [this]; omega
theorem snocRec {α : Type} {M : List α → Prop} (h0 : M []) (h1 : ∀ l c, M l → M (l ++ [c])) (l : List α) : M l := by
  have h : ∀ r : List α, M r.reverse := by
    intro r
    induction r with
    | nil => exact h0
    | cons c r ih => rw [List.reverse_cons]; exact h1 _ _ ih
  have := h l.reverse
  rwa [List.reverse_reverse] at this
theorem ofBe_lt (l : List UInt8) : ofBe l < 256 ^ l.length := by
  induction l using snocRec with
  | h0 => simp [ofBe]
  | h1 l c ih =>
    rw [ofBe_snoc, List.length_append, List.length_singleton, Nat.pow_succ]
    have := c.toNat_lt
    omega
theorem be_ofBe (l : List UInt8) : be (ofBe l) l.length = l := by
  induction l using snocRec with
  | h0 => rfl
  | h1 l c ih =>
    rw [List.length_append, List.length_singleton]
    show be (ofBe (l ++ [c]) / 256) l.length ++ [UInt8.ofNat (ofBe (l ++ [c]) % 256)] = _
    rw [ofBe_snoc]
    have hc := c.toNat_lt
    rw [show (256 * ofBe l + c.toNat) / 256 = ofBe l from by omega, ih, show (256 * ofBe l + c.toNat) % 256 = c.toNat from by omega]
    simp
theorem be_cons (n j : Nat) : be n (j + 1) = UInt8.ofNat (n / 256 ^ j % 256) :: be n j := by
  induction j generalizing n with
  | zero => simp [be]
  | succ j ih =>
    show be (n / 256) (j + 1) ++ [UInt8.ofNat (n % 256)] = _
    rw [ih]
    show UInt8.ofNat (n / 256 / 256 ^ j % 256) :: (be (n / 256) j ++ [UInt8.ofNat (n % 256)]) = _
    rw [Nat.div_div_eq_div_mul, Nat.pow_succ, Nat.mul_comm 256 (256 ^ j)]
    rfl
theorem be_drop (n s t : Nat) : (be n (s + t)).drop s = be n t := by
  induction s with
  | zero => simp
  | succ s ih => rw [show s + 1 + t = (s + t) + 1 from by omega, be_cons]; exact ih
theorem be_take (n s t : Nat) : (be n (s + t)).take s = be (n / 256 ^ t) s := by
  induction t generalizing n with
  | zero => rw [Nat.add_zero, List.take_of_length_le (by rw [be_length]; omega)]; simp
  | succ t ih =>
    show (be (n / 256) (s + t) ++ [UInt8.ofNat (n % 256)]).take s = _
    rw [List.take_append_of_le_length (by rw [be_length]; omega), ih, Nat.div_div_eq_div_mul, Nat.pow_succ, Nat.mul_comm 256]
theorem be_zero (s : Nat) : be 0 s = List.replicate s 0 := by
  induction s with
  | zero => rfl
  | succ s ih => show be (0 / 256) s ++ _ = _; rw [Nat.zero_div, ih, List.replicate_succ']; rfl
theorem be_inj {n s : Nat} (h : be n s = List.replicate s 0) : n % 256 ^ s = 0 := by
  have := congrArg ofBe h
  rw [ofBe_be, ← be_zero, ofBe_be] at this
  rw [this, Nat.zero_mod]
theorem ahead_zero {n s t : Nat} (hn : n < 256 ^ (s + t)) : decide ((be n (s + t)).take s = List.replicate s 0) = decide (n < 256 ^ t) := by
  rw [be_take, Bool.eq_iff_iff, decide_eq_true_eq, decide_eq_true_eq]
  have hp : 0 < 256 ^ t := Nat.pow_pos (by decide)
  have hlt : n / 256 ^ t < 256 ^ s := by rw [Nat.div_lt_iff_lt_mul hp, ← Nat.pow_add]; exact hn
  constructor
  · intro h
    have := be_inj h
    rw [Nat.mod_eq_of_lt hlt] at this
    rcases (Nat.div_eq_zero_iff.1 this) with h | h <;> omega
  · intro h
    rw [Nat.div_eq_of_lt h, be_zero]
end Go.Proofs.Ytadabjkhiaidcaa.Wire
end

section
set_option linter.unusedVariables false
set_option linter.unusedSimpArgs false
namespace Go.Proofs.Ytadabjkhiaidcaa
open Go.RowKit

theorem own_form {w : World} {base e n : Nat} {v : Value} {xs : List Value} (h : w.ownsRow base e 1 v n xs) : ∃ q c, v = .slice q n c := by
  rcases h.2 with ⟨rfl, rfl⟩ | ⟨g, cap, cur, rfl, _⟩
  · exact ⟨_, _, rfl⟩
  · exact ⟨_, _, rfl⟩
theorem own_below {w w' : World} {base e n : Nat} {v : Value} {xs : List Value} (h : w.ownsRow base e 1 v n xs) (hb : Below w.heap.size w w') : w'.ownsRow base e 1 v n xs := by
  obtain ⟨h1, h2⟩ := h
  refine ⟨h1, ?_⟩
  rcases h2 with h2 | ⟨g, cap, cur, e1, hg, hh, h3⟩
  · exact .inl h2
  · exact .inr ⟨g, cap, cur, e1, hg, (hb.block g (block_lt hh)).trans hh, h3⟩
theorem own_ne {w : World} {base e n g : Nat} {v : Value} {xs : List Value} {cs : Array Value} {t : TypeId} {fr : Nat × Nat} (h : w.ownsRow base e 1 v n xs) (hg : w.heap[g]? = some (.cells cs t fr)) (hne : e ≠ t) : some g ≠ v.ownBlock := by
  rcases h.2 with ⟨rfl, _⟩ | ⟨g', cap, cur, rfl, _, hh, _⟩
  · simp [Value.ownBlock]
  · intro he
    injection he with he
    simp at he
    subst he
    rw [hg] at hh
    injection hh with hh
    injection hh with _ ht
    exact hne ht.symm
theorem piece_info : ∃ i, Try.prog.info? 113 = some i ∧ i.zero = some (.slice none 0 0) ∧ i.size = 1 ∧ i.bytes = 24 := by
  have h : (Try.prog.info? 113).map (fun i => (i.zero, i.size, i.bytes)) = some (some (.slice none 0 0), 1, 24) := by kernel_rfl
  cases hi : Try.prog.info? 113 with
  | none => rw [hi] at h; cases h
  | some i =>
    rw [hi] at h
    injection h with h
    injection h with h1 h2
    injection h2 with h2 h3
    exact ⟨i, rfl, h1, h2, h3⟩
theorem own_apart {w : World} {b1 b2 e1 e2 n1 n2 : Nat} {v1 v2 : Value} {xs1 xs2 : List Value} (h1 : w.ownsRow b1 e1 1 v1 n1 xs1) (h2 : w.ownsRow b2 e2 1 v2 n2 xs2) (hne : e1 ≠ e2) : v1.ownBlock = none ∨ v1.ownBlock ≠ v2.ownBlock := by
  rcases h1.2 with ⟨rfl, _⟩ | ⟨g, cap, cur, rfl, _, hh, _⟩
  · exact .inl rfl
  · exact .inr (own_ne h2 hh (fun e => hne e.symm))
theorem own_set {w : World} {base e n g : Nat} {v : Value} {xs : List Value} {cs : Array Value} {t : TypeId} {fr : Nat × Nat} (h : w.ownsRow base e 1 v n xs) (hg : w.heap[g]? = some (.cells cs t fr)) (hne : e ≠ t) (i : Nat) (u : Value) : (w.setCell ⟨g, i, none⟩ u).ownsRow base e 1 v n xs := by
  have hn := own_ne h hg hne
  obtain ⟨h1, h2⟩ := h
  refine ⟨h1, ?_⟩
  rcases h2 with h2 | ⟨g', cap, cur, rfl, hb, hh, h3⟩
  · exact .inl h2
  · exact .inr ⟨g', cap, cur, rfl, hb, (heap_setCell_other w ⟨g, i, none⟩ g' u (fun e => hn (by show some g = some g'; exact congrArg some e.symm))).trans hh, h3⟩
theorem own_more {w : World} {b b' e n : Nat} {v : Value} {xs : List Value} (h : w.ownsRow b e 1 v n xs) (hb : b' ≤ b) : w.ownsRow b' e 1 v n xs := by
  obtain ⟨h1, h2⟩ := h
  refine ⟨h1, ?_⟩
  rcases h2 with h2 | ⟨g', cap, cur, rfl, hg, h3⟩
  · exact .inl h2
  · exact .inr ⟨g', cap, cur, rfl, by omega, h3⟩
theorem kept_grown {T : List TypeId} {a w w' : World} (h : Kept T a w) {base e n : Nat} {v : Value} {xs : List Value} (hown : w.ownsRow base e 1 v n xs) (hg : w.grownBy w' v.ownBlock) (he : e ∈ T) : Kept T a w' :=
  h.trans ⟨hg.size, fun i cs t fr hi ht => (hg.block i (block_lt hi) (own_ne hown hi (fun e' => ht (e' ▸ he)))).trans hi⟩

end Go.Proofs.Ytadabjkhiaidcaa
end
