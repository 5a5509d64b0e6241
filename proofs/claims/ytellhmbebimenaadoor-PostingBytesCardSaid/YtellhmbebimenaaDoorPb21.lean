/- Plain definitions and facts on numbers as bytes; no program in sight. -/
import GoSem.Core.Value

namespace Go.Proofs.YtellhmbebimenaaDoor.Wire

/-- a number of a size: its highest byte first -/
def be : Nat → Nat → List UInt8
  | _, 0 => []
  | n, k + 1 => be (n / 256) k ++ [UInt8.ofNat (n % 256)]
def bstep (a : Nat) (c : UInt8) : Nat := 256 * a + c.toNat
/-- what bytes come to -/
def ofBe (l : List UInt8) : Nat := l.foldl bstep 0
def maySize (s : Int) : Bool := decide (s = 1) || decide (s = 2) || decide (s = 4) || decide (s = 8)

/-- A writer: what was put; none: it failed. -/
def wNum (st : Option (List UInt8)) (n : Nat) (s : Int) : Option (List UInt8) :=
  if maySize s = true ∧ n < 256 ^ s.toNat then st.map (· ++ be n s.toNat) else none
def wBytes (st : Option (List UInt8)) (b : List UInt8) : Option (List UInt8) := st.map (· ++ b)
def wBlob (st : Option (List UInt8)) (b : List UInt8) : Option (List UInt8) :=
  if b.length ≤ 16777216 then wBytes (wNum st b.length 4) b else none

theorem be_length (n k : Nat) : (be n k).length = k := by
  induction k generalizing n with
  | zero => rfl
  | succ k ih => simp [be, ih]
theorem ofBe_snoc (l : List UInt8) (c : UInt8) : ofBe (l ++ [c]) = 256 * ofBe l + c.toNat := by
  unfold ofBe; rw [List.foldl_append]; simp only [List.foldl_cons, List.foldl_nil, bstep]
theorem ofBe_be (n k : Nat) : ofBe (be n k) = n % 256 ^ k := by
  induction k generalizing n with
  | zero => simp [be, ofBe, Nat.mod_one]
  | succ k ih =>
    simp only [be]
    rw [ofBe_snoc, ih, Nat.pow_succ, Nat.mul_comm (256 ^ k) 256, Nat.mod_mul]
    have : (UInt8.ofNat (n % 256)).toNat = n % 256 := by rw [UInt8.toNat_ofNat']; omega
    rw [this]; omega
theorem snocRec {α : Type} {M : List α → Prop} (h0 : M []) (h1 : ∀ l c, M l → M (l ++ [c])) (l : List α) : M l := by
  have h : ∀ r : List α, M r.reverse := by
    intro r
    induction r with
    | nil => exact h0
    | cons c r ih => rw [List.reverse_cons]; exact h1 _ _ ih
  have := h l.reverse
  rwa [List.reverse_reverse] at this
theorem ofBe_lt (l : List UInt8) : ofBe l < 256 ^ l.length := by
  induction l using snocRec with
  | h0 => simp [ofBe]
  | h1 l c ih =>
    rw [ofBe_snoc, List.length_append, List.length_singleton, Nat.pow_succ]
    have := c.toNat_lt
    omega
theorem be_ofBe (l : List UInt8) : be (ofBe l) l.length = l := by
  induction l using snocRec with
  | h0 => rfl
  | h1 l c ih =>
    rw [List.length_append, List.length_singleton]
    show be (ofBe (l ++ [c]) / 256) l.length ++ [UInt8.ofNat (ofBe (l ++ [c]) % 256)] = _
    rw [ofBe_snoc]
    have hc := c.toNat_lt
    rw [show (256 * ofBe l + c.toNat) / 256 = ofBe l from by omega, ih, show (256 * ofBe l + c.toNat) % 256 = c.toNat from by omega]
    simp
theorem be_cons (n j : Nat) : be n (j + 1) = UInt8.ofNat (n / 256 ^ j % 256) :: be n j := by
  induction j generalizing n with
  | zero => simp [be]
  | succ j ih =>
    show be (n / 256) (j + 1) ++ [UInt8.ofNat (n % 256)] = _
    rw [ih]
    show UInt8.ofNat (n / 256 / 256 ^ j % 256) :: (be (n / 256) j ++ [UInt8.ofNat (n % 256)]) = _
    rw [Nat.div_div_eq_div_mul, Nat.pow_succ, Nat.mul_comm 256 (256 ^ j)]
    rfl
theorem be_drop (n s t : Nat) : (be n (s + t)).drop s = be n t := by
  induction s with
  | zero => simp
  | succ s ih => rw [show s + 1 + t = (s + t) + 1 from by omega, be_cons]; exact ih
theorem be_take (n s t : Nat) : (be n (s + t)).take s = be (n / 256 ^ t) s := by
  induction t generalizing n with
  | zero => rw [Nat.add_zero, List.take_of_length_le (by rw [be_length]; omega)]; simp
  | succ t ih =>
    show (be (n / 256) (s + t) ++ [UInt8.ofNat (n % 256)]).take s = _
    rw [List.take_append_of_le_length (by rw [be_length]; omega), ih, Nat.div_div_eq_div_mul, Nat.pow_succ, Nat.mul_comm 256]
theorem be_zero (s : Nat) : be 0 s = List.replicate s 0 := by
  induction s with
  | zero => rfl
  | succ s ih => show be (0 / 256) s ++ _ = _; rw [Nat.zero_div, ih, List.replicate_succ']; rfl
theorem be_inj {n s : Nat} (h : be n s = List.replicate s 0) : n % 256 ^ s = 0 := by
  have := congrArg ofBe h
  rw [ofBe_be, ← be_zero, ofBe_be] at this
  rw [this, Nat.zero_mod]
theorem ahead_zero {n s t : Nat} (hn : n < 256 ^ (s + t)) : decide ((be n (s + t)).take s = List.replicate s 0) = decide (n < 256 ^ t) := by
  rw [be_take, Bool.eq_iff_iff, decide_eq_true_eq, decide_eq_true_eq]
  have hp : 0 < 256 ^ t := Nat.pow_pos (by decide)
  have hlt : n / 256 ^ t < 256 ^ s := by rw [Nat.div_lt_iff_lt_mul hp, ← Nat.pow_add]; exact hn
  constructor
  · intro h
    have := be_inj h
    rw [Nat.mod_eq_of_lt hlt] at this
    rcases (Nat.div_eq_zero_iff.1 this) with h | h <;> omega
  · intro h
    rw [Nat.div_eq_of_lt h, be_zero]
end Go.Proofs.YtellhmbebimenaaDoor.Wire
