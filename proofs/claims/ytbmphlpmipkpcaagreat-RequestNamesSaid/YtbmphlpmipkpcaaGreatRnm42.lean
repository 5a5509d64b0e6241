/- Plain facts on bytes' digits; no program in sight. Contracts: bytes' digits, of package wire and of the reference. -/
import GoSem.Core.Value
import Derived.Test.YtbmphlpmipkpcaaGreatRnm13
import Derived.Test.YtbmphlpmipkpcaaGreatRnm41
import Derived.BigRegion

section
namespace Go.Proofs.YtbmphlpmipkpcaaGreat.Hex

def hexd (n : Nat) : UInt8 := if n < 10 then UInt8.ofNat (48 + n) else UInt8.ofNat (87 + n)
def hexL : List UInt8 → List UInt8
  | [] => []
  | x :: l => hexd (x.toNat / 16) :: hexd (x.toNat % 16) :: hexL l
def isHex (c : UInt8) : Bool := (decide (48 ≤ c.toNat) && decide (c.toNat ≤ 57)) || (decide (97 ≤ c.toNat) && decide (c.toNat ≤ 102))
def hval (c : UInt8) : Nat := if c.toNat ≤ 57 then c.toNat - 48 else c.toNat - 87
/-- two by two -/
def unhex : List UInt8 → List UInt8
  | a :: b :: l => UInt8.ofNat (16 * hval a + hval b) :: unhex l
  | _ => []
def mayHex (l : List UInt8) : Bool := l.all isHex && decide (l.length % 2 = 0)

theorem hexd_toNat {n : Nat} (h : n < 16) : (hexd n).toNat = if n < 10 then 48 + n else 87 + n := by
  unfold hexd
  split <;> rw [UInt8.toNat_ofNat'] <;> omega
theorem hexd_is {n : Nat} (h : n < 16) : isHex (hexd n) = true := by
  unfold isHex
  rw [hexd_toNat h]
  split <;> simp <;> omega
theorem hval_hexd {n : Nat} (h : n < 16) : hval (hexd n) = n := by
  unfold hval
  rw [hexd_toNat h]
  split <;> split <;> omega
theorem isHex_iff {c : UInt8} : isHex c = true ↔ (48 ≤ c.toNat ∧ c.toNat ≤ 57) ∨ (97 ≤ c.toNat ∧ c.toNat ≤ 102) := by unfold isHex; simp
theorem hval_lt {c : UInt8} (h : isHex c = true) : hval c < 16 := by rw [isHex_iff] at h; unfold hval; split <;> omega
theorem hexd_hval {c : UInt8} (h : isHex c = true) : hexd (hval c) = c := by
  apply UInt8.toNat_inj.1
  rw [hexd_toNat (hval_lt h)]
  rw [isHex_iff] at h
  unfold hval
  split <;> split <;> omega
theorem hexL_length (l : List UInt8) : (hexL l).length = 2 * l.length := by
  induction l with
  | nil => rfl
  | cons x l ih => show (hexL l).length + 1 + 1 = _; rw [ih, List.length_cons]; omega
theorem hexL_append (l m : List UInt8) : hexL (l ++ m) = hexL l ++ hexL m := by
  induction l with
  | nil => rfl
  | cons x l ih => show _ :: _ :: hexL (l ++ m) = _; rw [ih]; rfl
theorem hexL_at (l : List UInt8) (k : Nat) (x : UInt8) (h : l[k / 2]? = some x) : (hexL l)[k]? = some (hexd (if k % 2 = 1 then x.toNat % 16 else x.toNat / 16)) := by
  induction l generalizing k with
  | nil => simp at h
  | cons y l ih =>
    match k with
    | 0 => injection h with h; subst h; rfl
    | 1 => injection h with h; subst h; rfl
    | k + 2 =>
      have h2 : l[k / 2]? = some x := by rw [show (k + 2) / 2 = k / 2 + 1 from by omega] at h; simpa using h
      have := ih k h2
      show (hexL l)[k]? = _
      rw [this, show (k + 2) % 2 = k % 2 from by omega]
theorem hexL_all (l : List UInt8) : (hexL l).all isHex = true := by
  induction l with
  | nil => rfl
  | cons x l ih =>
    have := x.toNat_lt
    show ((hexd (x.toNat / 16) :: hexd (x.toNat % 16) :: hexL l).all isHex) = true
    rw [List.all_cons, List.all_cons, ih, hexd_is (by omega), hexd_is (by omega)]; rfl
theorem mayHex_hexL (l : List UInt8) : mayHex (hexL l) = true := by unfold mayHex; rw [hexL_all, hexL_length]; simp
theorem unhex_hexL (l : List UInt8) : unhex (hexL l) = l := by
  induction l with
  | nil => rfl
  | cons x l ih =>
    have := x.toNat_lt
    show UInt8.ofNat (16 * hval (hexd (x.toNat / 16)) + hval (hexd (x.toNat % 16))) :: unhex (hexL l) = _
    rw [ih, hval_hexd (by omega), hval_hexd (by omega), show 16 * (x.toNat / 16) + x.toNat % 16 = x.toNat from by omega]
    simp
theorem hexL_unhex (l : List UInt8) (h : l.all isHex = true) (he : l.length % 2 = 0) : hexL (unhex l) = l := by
  match l, h, he with
  | [], _, _ => rfl
  | [a], _, he => simp at he
  | a :: b :: l, h, he =>
    rw [List.all_cons, List.all_cons, Bool.and_eq_true, Bool.and_eq_true] at h
    have ha := hval_lt h.1
    have hb := hval_lt h.2.1
    have ih := hexL_unhex l h.2.2 (by simp at he; omega)
    show hexd ((UInt8.ofNat (16 * hval a + hval b)).toNat / 16) :: hexd ((UInt8.ofNat (16 * hval a + hval b)).toNat % 16) :: hexL (unhex l) = _
    rw [ih, UInt8.toNat_ofNat', show (16 * hval a + hval b) % 2 ^ 8 / 16 = hval a from by omega, show (16 * hval a + hval b) % 2 ^ 8 % 16 = hval b from by omega, hexd_hval h.1, hexd_hval h.2.1]
/-- what is told behind k digits: the bytes that are whole, and a first digit that waits (-1: none) -/
def outK (l : List UInt8) (k : Nat) : List UInt8 := unhex (l.take (k / 2 * 2))
def highK (l : List UInt8) (k : Nat) : Int := if k % 2 = 1 then (hval (l.getD (k - 1) 0) : Int) else -1
theorem unhex_snoc2 (l : List UInt8) (a b : UInt8) (h : l.length % 2 = 0) : unhex (l ++ [a, b]) = unhex l ++ [UInt8.ofNat (16 * hval a + hval b)] := by
  match l, h with
  | [], _ => rfl
  | [x], h => simp at h
  | x :: y :: l, h =>
    have ih := unhex_snoc2 l a b (by simp at h; omega)
    show _ :: unhex (l ++ [a, b]) = _ :: (unhex l ++ _)
    rw [ih]
theorem take2 (l : List UInt8) (k : Nat) (h : k + 1 < l.length) : l.take (k + 2) = l.take k ++ [l.getD k 0, l.getD (k + 1) 0] := by
  rw [List.take_add, List.getD_eq_getElem?_getD, List.getD_eq_getElem?_getD, List.getElem?_eq_getElem (by omega), List.getElem?_eq_getElem h]
  congr 1
  rw [List.drop_eq_getElem_cons (by omega), List.drop_eq_getElem_cons h]
  rfl
theorem outK_even (l : List UInt8) (k : Nat) (h : k % 2 = 0) : outK l (k + 1) = outK l k := by unfold outK; rw [show (k + 1) / 2 * 2 = k / 2 * 2 from by omega]
theorem outK_odd (l : List UInt8) (k : Nat) (h : k % 2 = 1) (hk : k < l.length) : outK l (k + 1) = outK l k ++ [UInt8.ofNat (16 * hval (l.getD (k - 1) 0) + hval (l.getD k 0))] := by
  unfold outK
  have e : (k + 1) / 2 * 2 = (k - 1) + 2 := by omega
  have e2 : k / 2 * 2 = k - 1 := by omega
  have h2 := take2 l (k - 1) (by omega)
  rw [show k - 1 + 1 = k from by omega] at h2
  rw [e, e2, h2, unhex_snoc2 _ _ _ (by rw [List.length_take]; omega)]
theorem highK_even (l : List UInt8) (k : Nat) (h : k % 2 = 0) : highK l k = -1 ∧ highK l (k + 1) = (hval (l.getD k 0) : Int) := by
  unfold highK
  rw [if_neg (by omega), if_pos (by omega)]; exact ⟨rfl, rfl⟩
theorem highK_odd (l : List UInt8) (k : Nat) (h : k % 2 = 1) : highK l k = (hval (l.getD (k - 1) 0) : Int) ∧ highK l (k + 1) = -1 := by
  unfold highK
  rw [if_pos h, if_neg (by omega)]; exact ⟨rfl, rfl⟩
theorem unhex_length : ∀ l : List UInt8, (unhex l).length ≤ l.length
  | [] => Nat.le_refl _
  | [_] => Nat.zero_le _
  | a :: b :: l => by have := unhex_length l; show (unhex l).length + 1 ≤ l.length + 1 + 1; omega
theorem outK_length (l : List UInt8) (k : Nat) : (outK l k).length ≤ l.length := Nat.le_trans (unhex_length _) (by rw [List.length_take]; omega)
end Go.Proofs.YtbmphlpmipkpcaaGreat.Hex
end

section
set_option linter.unusedSimpArgs false
set_option linter.unusedVariables false
namespace Go.Proofs.YtbmphlpmipkpcaaGreat
open Go.RowKit

/-- 'append(v, x...)' of bytes, in a region that draws its order -/
theorem step_append_bytes {ops : Array Oper} {o : Oper} {a : Act} {K : Act → World → Prop} {Q : Exit → Act → World → Prop} {E : Prop} {w : World} (hgd : o.guard = none) (s x : Operand)
    (ho : o.op = .call { callee := .builtin .append, args := #[s, x], argTypes := #[47, 47] }) (base : Nat) (v : Value) (n : Nat) (xs : List Value) (hs : a.eval s = v) (hown : w.ownsRow base 5 1 v n xs)
    (y : Value) (l : List UInt8) (hx : a.eval x = y) (hb : BS w y l) (hn : n + l.length ≤ 1099511627776) (hbase : base ≤ w.heap.size)
    (h : ∀ v' w', w'.ownsRow base 5 1 v' (n + l.length) (xs ++ bytesV l) → w.grownBy w' v.ownBlock → K (a.put o.dst v') w') :
    if Region.wanted o (yielded ops a.tmps) = true then Oper.wp Tryz.prog o a w K Q else E := by
  have hw : Region.wanted o (yielded ops a.tmps) = true := by simp [Region.wanted, hgd]
  rw [if_pos hw]
  obtain ⟨v', w', hr, g1, g2, _, _⟩ := run_append_bytes w base o.type v n xs hown y l hb hn hbase
  exact Lib.wp_append_run w s x _ _ ho v _ hs hx v' w' hr (h v' w' g1 g2)
theorem row_bytes (w : World) (l : List UInt8) (n : Nat) (hn : l.length = n) (hc : n ≤ maxLen) : BS (w.alloc (.cells (rowB l) 5)) (.slice (some ⟨w.heap.size, 0, none⟩) n n) l := by
  have := BS.of_row (w := w.alloc (.cells (rowB l) 5)) (new_rowW _ _ w.heap.size rfl) 0 n n (by omega) (Nat.le_refl _) hc
  rwa [List.drop_zero, List.take_of_length_le (by omega)] at this
set_option maxRecDepth 10000 in
theorem hex_at (q : Nat) (h : q < 16) (W : World) : (Instr.index 9 (.string ⟨#[48, 49, 50, 51, 52, 53, 54, 55, 56, 57, 97, 98, 99, 100, 101, 102]⟩) (.int .u8 (q : Int))).run Tryz.prog W = .ok (.int .u8 (((Hex.hexd q).toNat : Nat) : Int)) W := by
  rcases (by omega : q = 0 ∨ q = 1 ∨ q = 2 ∨ q = 3 ∨ q = 4 ∨ q = 5 ∨ q = 6 ∨ q = 7 ∨ q = 8 ∨ q = 9 ∨ q = 10 ∨ q = 11 ∨ q = 12 ∨ q = 13 ∨ q = 14 ∨ q = 15) with rfl | rfl | rfl | rfl | rfl | rfl | rfl | rfl | rfl | rfl | rfl | rfl | rfl | rfl | rfl | rfl <;>
    (simp only [Instr.index, run_underlying Tryz.underlying9, asIntOf]; rfl)

end Go.Proofs.YtbmphlpmipkpcaaGreat
end
