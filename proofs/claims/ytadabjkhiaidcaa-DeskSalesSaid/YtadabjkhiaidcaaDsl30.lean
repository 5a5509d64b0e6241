/- Contract: a ticket's parts are taken, in order (way.ticket, with a reader). -/
import Derived.Test.YtadabjkhiaidcaaDsl29
import Derived.Deep.CutBlock

set_option linter.unusedVariables false
set_option linter.unusedSimpArgs false
namespace Go.Proofs.Ytadabjkhiaidcaa
open Go.RowKit

namespace Tkt
/-- so many steps of a reader's state -/
def itS (f : Option (List UInt8) → Option (List UInt8)) : Nat → Option (List UInt8) → Option (List UInt8)
  | 0, s => s
  | k + 1, s => f (itS f k s)
def itL {α : Type} (g : Option (List UInt8) → α) (f : Option (List UInt8) → Option (List UInt8)) : Nat → Option (List UInt8) → List α
  | 0, _ => []
  | k + 1, s => itL g f k s ++ [g (itS f k s)]
theorem itL_length {α : Type} (g : Option (List UInt8) → α) (f : Option (List UInt8) → Option (List UInt8)) (k : Nat) (s : Option (List UInt8)) : (itL g f k s).length = k := by
  induction k with
  | zero => rfl
  | succ k ih => rw [itL, List.length_append, ih]; rfl
def cc1 (s : Option (List UInt8)) := rNumS s 2
def cc2 (s : Option (List UInt8)) := rNumS (cc1 s) 4
def cc3 (s : Option (List UInt8)) := rNumS (cc2 s) 8
def cc4 (s : Option (List UInt8)) := rNumS (cc3 s) 1
def cc5 (s : Option (List UInt8)) := rNumS (cc4 s) 2
def cc6 (s : Option (List UInt8)) := rNumS (cc5 s) 8
def gC (s : Option (List UInt8)) : Cpn := ⟨(rNumV s 2 : Int), (rNumV (cc1 s) 4 : Int), IntKind.i64.wrap (rNumV (cc2 s) 8 : Int), (rNumV (cc3 s) 1 : Int), (rNumV (cc4 s) 2 : Int), (rNumV (cc5 s) 8 : Int)⟩
def gCs (s : Option (List UInt8)) := cc6 s
def xx1 (s : Option (List UInt8)) := rNumS s 1
def xx2 (s : Option (List UInt8)) := rNumS (xx1 s) 8
def gX (s : Option (List UInt8)) : Txx := ⟨(rNumV s 1 : Int), IntKind.i64.wrap (rNumV (xx1 s) 8 : Int)⟩
def gXs (s : Option (List UInt8)) := xx2 s
def ee1 (s : Option (List UInt8)) := rNumS s 4
def ee2 (s : Option (List UInt8)) := rNumS (ee1 s) 1
def ee3 (s : Option (List UInt8)) := rNumS (ee2 s) 1
def ee4 (s : Option (List UInt8)) := rNumS (ee3 s) 1
def gE (s : Option (List UInt8)) : Evt := ⟨(rNumV s 4 : Int), (rNumV (ee1 s) 1 : Int), (rNumV (ee2 s) 1 : Int), (rNumV (ee3 s) 1 : Int)⟩
def gEs (s : Option (List UInt8)) := ee4 s
def q1 (s : Option (List UInt8)) := rNumS s 8
def q2 (s : Option (List UInt8)) := rRest (q1 s) 6
def q3 (s : Option (List UInt8)) := rNumS (q2 s) 4
def q4 (s : Option (List UInt8)) := rNumS (q3 s) 8
def q5 (s : Option (List UInt8)) := rNumS (q4 s) 8
def q6 (s : Option (List UInt8)) := rNumS (q5 s) 8
def q7 (s : Option (List UInt8)) := rNumS (q6 s) 8
def n1 (s : Option (List UInt8)) := rNumV (q7 s) 1
def q8 (s : Option (List UInt8)) := rNumS (q7 s) 1
def q9 (s : Option (List UInt8)) := itS gCs (n1 s) (q8 s)
def n2 (s : Option (List UInt8)) := rNumV (q9 s) 1
def q10 (s : Option (List UInt8)) := rNumS (q9 s) 1
def q11 (s : Option (List UInt8)) := itS gXs (n2 s) (q10 s)
def q12 (s : Option (List UInt8)) := rNumS (q11 s) 1
def n3 (s : Option (List UInt8)) := rNumV (q12 s) 1
def q13 (s : Option (List UInt8)) := rNumS (q12 s) 1
def q14 (s : Option (List UInt8)) := itS gEs (n3 s) (q13 s)
/-- the ticket that is read off a reader -/
def gT (s : Option (List UInt8)) : Tk := ⟨(rNumV s 8 : Int), ⟨(rBy (q1 s) 6).toArray⟩, (rNumV (q2 s) 4 : Int), itL gC gCs (n1 s) (q8 s), itL gX gXs (n2 s) (q10 s), (rNumV (q3 s) 8 : Int), (rNumV (q4 s) 8 : Int), (rNumV (q5 s) 8 : Int), IntKind.i64.wrap (rNumV (q6 s) 8 : Int), (rNumV (q11 s) 1 : Int), itL gE gEs (n3 s) (q13 s)⟩
end Tkt
def mid (pre z post : List Value) : Array Value := (pre ++ (z ++ post)).toArray
theorem mid_at {pre z post : List Value} {P : Nat} (hp : pre.length = P) (i : Nat) {v : Value} (hz : z[i]? = some v) : (mid pre z post)[P + i]? = some v := by
  unfold mid
  subst hp
  rw [List.getElem?_toArray, List.getElem?_append_right (by omega), Nat.add_sub_cancel_left, List.getElem?_append_left (List.getElem?_eq_some_iff.1 hz).1, hz]
theorem mid_lt {pre z post : List Value} {P : Nat} (hp : pre.length = P) (i : Nat) (hz : i < z.length) : P + i < (mid pre z post).size := by
  unfold mid
  simp
  omega
theorem mid_set {pre z post : List Value} {P : Nat} (hp : pre.length = P) (i : Nat) (hz : i < z.length) (v : Value) : (mid pre z post).setIfInBounds (P + i) v = mid pre (z.set i v) post := by
  unfold mid
  subst hp
  rw [List.setIfInBounds_toArray, List.set_append_right _ _ (by omega), Nat.add_sub_cancel_left, List.set_append_left _ _ hz]
theorem mid_set_eq {w : World} {b : Nat} {e : TypeId} {pre z z' post : List Value} {P : Nat} (hp : pre.length = P) (i : Nat) {v : Value} (hz : decide (i < z.length) = true) (he : z.set i v = z') (h : w.heap[b]? = some (.cells ((mid pre z post).setIfInBounds (P + i) v) e (0, 0))) : w.heap[b]? = some (.cells (mid pre z' post) e (0, 0)) := by
  rw [mid_set hp i (by simpa using hz), he] at h
  exact h
/-- a row of records of which some have been read -/
def rowJ {α : Type} (en : α → List Value) (z : α) (N : Nat) (g : Option (List UInt8) → α) (f : Option (List UInt8) → Option (List UInt8)) (s : Option (List UInt8)) (j : Nat) : Array Value := (encL en (Tkt.itL g f j s) ++ encL en (List.replicate (N - j) z)).toArray
section
variable {α : Type} {en : α → List Value} {z : α} {N : Nat} {g : Option (List UInt8) → α} {f : Option (List UInt8) → Option (List UInt8)} {s : Option (List UInt8)} {j : Nat}
theorem rowJ_zero : rowJ en z N g f s 0 = (encL en (List.replicate N z)).toArray := by unfold rowJ; rfl
theorem rowJ_all : rowJ en z N g f s N = (encL en (Tkt.itL g f N s)).toArray := by unfold rowJ; rw [Nat.sub_self]; simp [encL]
theorem rowJ_mid (h : j < N) : rowJ en z N g f s j = mid (encL en (Tkt.itL g f j s)) (en z) (encL en (List.replicate (N - j - 1) z)) := by
  unfold rowJ mid
  have e : N - j = (N - j - 1) + 1 := by omega
  rw [e, List.replicate_succ, Nat.add_sub_cancel]
  rfl
theorem rowJ_next (h : j < N) : rowJ en z N g f s (j + 1) = mid (encL en (Tkt.itL g f j s)) (en (g (Tkt.itS f j s))) (encL en (List.replicate (N - j - 1) z)) := by
  unfold rowJ mid
  rw [Tkt.itL, encL_append, List.append_assoc, Nat.sub_sub]
  congr 2
  simp [encL]
end
theorem n_leG (s : Option (List UInt8)) : rNumV s 1 ≤ maxLen := Nat.le_of_lt (Nat.lt_of_lt_of_le (rNumV_lt s 1) (by unfold maxLen; decide))
theorem row_set {W : World} {c g : Nat} {ob : Obj} (h : W.heap[c]? = some ob) (hne : c ≠ g) (o : Nat) (v : Value) : (W.setCell ⟨g, o, none⟩ v).heap[c]? = some ob := (heap_setCell_other W ⟨g, o, none⟩ c v hne).trans h
theorem own_rowG {α : Type} {enc : α → List Value} {n : Nat} {w : World} {base e g m : Nat} {l : List α} (hg : w.heap[g]? = some (.cells (encL enc l).toArray e (0, 0))) (hn : ∀ x, (enc x).length = n) (hl : l.length = m) (hm : m ≤ maxLen) (hb : base ≤ g) : w.ownsRow base e n (.slice (some ⟨g, 0, none⟩) m m) m (encL enc l) := by
  have hlen : (encL enc l).length = m * n := by rw [encL_length hn, hl]
  refine ⟨hlen, .inr ⟨g, m, _, rfl, hb, hg, Nat.le_refl _, hm, by simp [hlen], ?_⟩⟩
  rw [List.toList_toArray, List.take_of_length_le (by omega)]

end Go.Proofs.Ytadabjkhiaidcaa
