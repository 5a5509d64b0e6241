/- Plain facts: the order of numbers is that of their bytes. An argument that is a slice of bytes, read as a list. -/
import Derived.Test.YtellhmbebimenaaDoorPb21
import GoSem.Op.String
import Derived.Test.YtellhmbebimenaaDoorPb17

section
namespace Go.Proofs.YtellhmbebimenaaDoor.Wire

theorem be_mod (x k : Nat) : be (x % 256 ^ k) k = be x k := by
  have h := be_ofBe (be x k)
  rwa [be_length, ofBe_be] at h
theorem less_be (k : Nat) : ∀ x y : Nat, x < 256 ^ k → y < 256 ^ k → Op.bytesLess (be x k) (be y k) = decide (x < y) := by
  induction k with
  | zero =>
    intro x y hx hy
    have h1 : x = 0 := by simpa using hx
    have h2 : y = 0 := by simpa using hy
    subst h1; subst h2; rfl
  | succ k ih =>
    intro x y hx hy
    have hp : 0 < 256 ^ k := Nat.pow_pos (by decide)
    rw [Nat.pow_succ] at hx hy
    have qx : x / 256 ^ k < 256 := by rw [Nat.div_lt_iff_lt_mul hp, Nat.mul_comm]; exact hx
    have qy : y / 256 ^ k < 256 := by rw [Nat.div_lt_iff_lt_mul hp, Nat.mul_comm]; exact hy
    rw [be_cons, be_cons, ← be_mod x k, ← be_mod y k]
    have hr := ih (x % 256 ^ k) (y % 256 ^ k) (Nat.mod_lt _ hp) (Nat.mod_lt _ hp)
    have ex := Nat.div_add_mod x (256 ^ k)
    have ey := Nat.div_add_mod y (256 ^ k)
    have rx := Nat.mod_lt x hp
    have ry := Nat.mod_lt y hp
    show (decide (UInt8.ofNat (x / 256 ^ k % 256) < UInt8.ofNat (y / 256 ^ k % 256)) || (UInt8.ofNat (x / 256 ^ k % 256) == UInt8.ofNat (y / 256 ^ k % 256) && Op.bytesLess (be (x % 256 ^ k) k) (be (y % 256 ^ k) k))) = _
    rw [hr, Nat.mod_eq_of_lt qx, Nat.mod_eq_of_lt qy]
    generalize x / 256 ^ k = a at *
    generalize y / 256 ^ k = b at *
    generalize x % 256 ^ k = c at *
    generalize y % 256 ^ k = d at *
    generalize 256 ^ k = P at *
    have ta : (UInt8.ofNat a).toNat = a := by rw [UInt8.toNat_ofNat']; omega
    have tb : (UInt8.ofNat b).toNat = b := by rw [UInt8.toNat_ofNat']; omega
    have h1 : (UInt8.ofNat a < UInt8.ofNat b) ↔ a < b := by rw [UInt8.lt_iff_toNat_lt, ta, tb]
    have h2 : (UInt8.ofNat a = UInt8.ofNat b) ↔ a = b := ⟨fun h => by have := congrArg UInt8.toNat h; rwa [ta, tb] at this, fun h => by rw [h]⟩
    rw [Bool.eq_iff_iff]
    simp only [Bool.or_eq_true, Bool.and_eq_true, decide_eq_true_eq, beq_iff_eq, h1, h2]
    rcases Nat.lt_trichotomy a b with h | h | h
    · have : P * a + P ≤ P * b := by rw [← Nat.mul_succ]; exact Nat.mul_le_mul_left P h
      constructor
      · intro _; omega
      · intro _; exact .inl h
    · subst h
      constructor
      · rintro (h | ⟨_, h⟩) <;> omega
      · intro _; exact .inr ⟨rfl, by omega⟩
    · have : P * b + P ≤ P * a := by rw [← Nat.mul_succ]; exact Nat.mul_le_mul_left P h
      constructor
      · rintro (h' | ⟨h', _⟩) <;> omega
      · intro _; omega
theorem key_be (T S : Nat) (hS : S < 65536) : be T 8 ++ be S 2 = be (T * 65536 + S) 10 := by
  have h1 := be_take (T * 65536 + S) 8 2
  have h2 := be_drop (T * 65536 + S) 8 2
  have h3 := be_mod (T * 65536 + S) 2
  rw [show (256 : Nat) ^ 2 = 65536 from by decide] at h1 h3
  rw [show (T * 65536 + S) / 65536 = T from by omega] at h1
  rw [show (T * 65536 + S) % 65536 = S from by omega] at h3
  rw [← h1, h3, ← h2, List.take_append_drop]
theorem key_lt {T S : Nat} (hT : T < 18446744073709551616) (hS : S < 65536) : T * 65536 + S < 256 ^ 10 := by
  rw [show (256 : Nat) ^ 10 = 1208925819614629174706176 from by decide]; omega
theorem key_less {T S T' S' : Nat} (hT : T < 18446744073709551616) (hS : S < 65536) (hT' : T' < 18446744073709551616) (hS' : S' < 65536) :
    Op.bytesLess (be T 8 ++ be S 2) (be T' 8 ++ be S' 2) = (decide ((T : Int) < (T' : Int)) || (decide ((T : Int) = (T' : Int)) && decide ((S : Int) < (S' : Int)))) := by
  rw [key_be T S hS, key_be T' S' hS', less_be 10 _ _ (key_lt hT hS) (key_lt hT' hS'), Bool.eq_iff_iff]
  simp only [Bool.or_eq_true, Bool.and_eq_true, decide_eq_true_eq]
  omega
theorem key_same {T S T' S' : Nat} (hT : T < 18446744073709551616) (hS : S < 65536) (hT' : T' < 18446744073709551616) (hS' : S' < 65536) :
    ((be T 8 ++ be S 2) == (be T' 8 ++ be S' 2)) = (decide ((T : Int) = (T' : Int)) && decide ((S : Int) = (S' : Int))) := by
  rw [key_be T S hS, key_be T' S' hS', Bool.eq_iff_iff]
  simp only [Bool.and_eq_true, decide_eq_true_eq, beq_iff_eq]
  constructor
  · intro h
    have h1 := congrArg ofBe h
    rw [ofBe_be, ofBe_be, Nat.mod_eq_of_lt (key_lt hT hS), Nat.mod_eq_of_lt (key_lt hT' hS')] at h1
    omega
  · rintro ⟨h1, h2⟩
    have e1 : T = T' := by omega
    have e2 : S = S' := by omega
    rw [e1, e2]
end Go.Proofs.YtellhmbebimenaaDoor.Wire
end

section
set_option linter.unusedVariables false
set_option linter.unusedSimpArgs false
namespace Go.Proofs.YtellhmbebimenaaDoor
open Go.ChangeShapes Go.WideShapes Go.ChangeAt Go.RowKit Go.Deep

theorem spot_none {w : World} {a : Addr} {v : Value} (h : w.cell? a = some v) : a.spot = none := by
  unfold World.cell? at h
  split at h
  · split at h
    · cases h
    · rename_i hn
      cases hs : a.spot with
      | none => rfl
      | some z => simp [hs] at hn
  · cases h
theorem u8_of {n : Int} (h : (Lit.int .u8 n).wf = true) : ((UInt8.ofNat n.toNat).toNat : Int) = n := by
  have : 0 ≤ n ∧ n ≤ 255 := by simpa [Lit.wf, IntKind.min, IntKind.max, IntKind.signed, IntKind.bits] using h
  rw [UInt8.toNat_ofNat']; omega

section
variable {H : Type} {enc : TypeId × Value → H} {W : World} {base : Nat} {held : Bool}
set_option maxRecDepth 10000 in
theorem open_bytes_cell {fuel : Nat} {cs : List Value} {x : DataW H × List MemPlace} (h : DataW.trod enc Tryd.prog W base (fun _ => true) held fuel 38 cs = some x) : ∃ v l, cs = [v] ∧ BS W v l := by
  rcases open_ints Tryd.underlying38 Tryd.underlying5 (by kernel_rfl) h with ⟨rfl, _⟩ | ⟨a, len, cap, zs, rfl, hb, hl, hm, hz, hx, hc, hw⟩
  · exact ⟨_, [], rfl, BS.nil W⟩
  · simp only [ite_true] at hz
    have hll : ((zs.take len).map fun z => UInt8.ofNat z.toNat).length = len := by simp; omega
    refine ⟨_, (zs.take len).map (fun z => UInt8.ofNat z.toNat), rfl, some a, cap, by rw [hll], by omega, hm, fun hne => ?_⟩
    have hpos : 0 < len := by
      rcases Nat.eq_zero_or_pos len with h0 | h0
      · subst h0; simp at hne
      · exact h0
    have h0 := hc 0 (by omega)
    have hs := spot_none h0
    have hblk := cell_blockW h0
    obtain ⟨b, o, sp⟩ := a
    have hs' : sp = none := by simpa [Addr.add] using hs
    subst hs'
    refine ⟨b, o, rfl, by simpa [Addr.add] using hblk, fun i x hx => ?_⟩
    have hi : i < len := by have := (List.getElem?_eq_some_iff.1 hx).1; omega
    have hci := hc i (by omega)
    rw [Go.WideShapes.add_plain] at hci
    rw [hci]
    have hzi : zs[i]? = some (zs.getD i 0) := by rw [List.getD_eq_getElem?_getD, List.getElem?_eq_getElem (by omega)]; rfl
    rw [List.getElem?_map, List.getElem?_take_of_lt hi, hzi] at hx
    injection hx with hx
    rw [← hx, u8_of (hw _ (List.mem_of_getElem? hzi))]

set_option maxRecDepth 10000 in
theorem open_bytes {v : Value} {r : Reach} {b0 : Nat} {d : DataW H} {ps : List MemPlace} (hv : Value.okWide Tryd.prog W r b0 38 v)
    (h : DataW.Trod enc Tryd.prog W base (fun _ => true) held 38 v d ps) : ∃ l : List UInt8, BS W v l := by
  have hcs : v.cells = #[v] := by
    simp only [Value.okWide, Tryd.underlying38] at hv
    cases v <;> first | rfl | simp [Cell.okWide, Cell.ok] at hv
  obtain ⟨fuel, hf⟩ := h
  rw [hcs] at hf
  obtain ⟨u, l, hu, hb⟩ := open_bytes_cell hf
  injection hu with hu _
  subst hu
  exact ⟨l, hb⟩
end
end Go.Proofs.YtellhmbebimenaaDoor
end
