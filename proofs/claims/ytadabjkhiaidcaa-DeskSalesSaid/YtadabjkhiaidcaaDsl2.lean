/- Records in memory, of whatever type: a row in a block of its own that is written in place; a slice of records; append of them. -/
import Derived.Test.YtadabjkhiaidcaaDsl1
import Derived.Deep.RegionHeld3
import Derived.Deep.MidRow
import Derived.BigRegion
import Derived.Deep.DrawnRows

set_option linter.unusedVariables false
set_option linter.unusedSimpArgs false
namespace Go.Proofs.Ytadabjkhiaidcaa
open Go.RowKit

/-- of the blocks that were there g alone may be another one -/
structure Only (g : Nat) (w w' : World) : Prop where
  os : w'.os = w.os
  tape : w'.tape = w.tape
  output : w'.output = w.output
  size : w.heap.size ≤ w'.heap.size
  block : ∀ k, k < w.heap.size → k ≠ g → w'.heap[k]? = w.heap[k]?
theorem Only.refl (g : Nat) (w : World) : Only g w w := ⟨rfl, rfl, rfl, Nat.le_refl _, fun _ _ _ => rfl⟩
theorem Only.trans {g : Nat} {a b c : World} (h : Only g a b) (k : Only g b c) : Only g a c :=
  ⟨k.os.trans h.os, k.tape.trans h.tape, k.output.trans h.output, Nat.le_trans h.size k.size, fun i hi hg => (k.block i (Nat.lt_of_lt_of_le hi h.size) hg).trans (h.block i hi hg)⟩
theorem Only.of_below {g : Nat} {a w : World} (h : Below a.heap.size a w) : Only g a w := ⟨h.os, h.tape, h.output, h.size, fun k hk _ => h.block k hk⟩
theorem Only.drew {g : Nat} {a w : World} (h : Only g a w) : Only g a w.drew := h.trans ⟨rfl, rfl, rfl, Nat.le_refl _, fun _ _ _ => rfl⟩
theorem Only.drewN {g : Nat} {a w : World} (h : Only g a w) (n : Nat) : Only g a (w.drewN n) := h.trans ⟨rfl, rfl, rfl, Nat.le_refl _, fun _ _ _ => rfl⟩
theorem Only.setCell {g : Nat} {a w : World} (h : Only g a w) (o : Nat) (u : Value) : Only g a (w.setCell ⟨g, o, none⟩ u) :=
  h.trans ⟨rfl, rfl, rfl, by simp [World.setCell], fun k hk hn => Below.heap_setCell _ _ _ _ hn⟩
theorem Only.setCells {g : Nat} {a w : World} (h : Only g a w) (o : Nat) (us : List Value) : Only g a (w.setCells g o us) := by
  induction us generalizing o w with
  | nil => exact h
  | cons u us ih => rw [World.setCells]; exact ih (h.setCell o u) (o + 1)
theorem Only.alloc {g : Nat} {a w : World} (h : Only g a w) (o : Obj) : Only g a (w.alloc o) := h.trans (.of_below ((Below.refl _ _).alloc (Nat.le_refl _) _))
theorem Only.below {B g : Nat} {a w w' : World} (h : Below B a w) (hg : B ≤ g) (hB : B ≤ w.heap.size) (k : Only g w w') : Below B a w' :=
  h.trans ⟨k.os, k.tape, k.output, k.size, fun i hi => k.block i (by omega) (by omega)⟩

/-- the records l lie in block g from its head on, n cells each, and may be written -/
def RowL {α : Type} (enc : α → List Value) (n : Nat) (w : World) (g : Nat) (l : List α) : Prop :=
  (∀ i x, l[i]? = some x → w.rangeAt g (i * n) (enc x)) ∧ ∀ i, i < l.length → w.there g (i * n) n
theorem RowL.block {α : Type} {enc : α → List Value} {n : Nat} {w w' : World} {g : Nat} {l : List α} (h : RowL enc n w g l) (hb : w'.heap[g]? = w.heap[g]?) : RowL enc n w' g l := by
  have hc : ∀ o, w'.cell? ⟨g, o, none⟩ = w.cell? ⟨g, o, none⟩ := fun o => World.cell?_of_block (w := w) (a := ⟨g, o, none⟩) hb
  have hf : ∀ o, w'.frozen? ⟨g, o, none⟩ = w.frozen? ⟨g, o, none⟩ := fun o => World.frozen?_of_block (w := w) (a := ⟨g, o, none⟩) hb
  refine ⟨fun i x hx j v hv => (hc _).trans (h.1 i x hx j v hv), fun i hi j hj => ?_⟩
  have := h.2 i hi j hj
  rw [hc, hf]
  exact this
theorem RowL.below {α : Type} {enc : α → List Value} {n B : Nat} {w w' : World} {g : Nat} {l : List α} (h : RowL enc n w g l) (hg : g < B) (hb : Below B w w') : RowL enc n w' g l := h.block (hb.block g hg)
theorem idx_apart {i j n : Nat} (h : i ≠ j) : i * n + n ≤ j * n ∨ j * n + n ≤ i * n := by
  rcases Nat.lt_or_gt_of_ne h with h | h
  · left
    have := Nat.mul_le_mul_right n (show i + 1 ≤ j by omega)
    rwa [Nat.succ_mul] at this
  · right
    have := Nat.mul_le_mul_right n (show j + 1 ≤ i by omega)
    rwa [Nat.succ_mul] at this
theorem RowL.set {α : Type} {enc : α → List Value} {n : Nat} {w : World} {g : Nat} {l : List α} (h : RowL enc n w g l) (hn : ∀ x, (enc x).length = n) (i : Nat) (x : α) (hi : i < l.length) : RowL enc n (w.setCells g (i * n) (enc x)) g (l.set i x) := by
  refine ⟨fun k y hk => ?_, fun k hk => World.there_setCells (h.2 k (by simpa using hk)) _ _ _⟩
  by_cases hki : i = k
  · subst hki
    rw [List.getElem?_set_self hi] at hk
    injection hk with hk
    subst hk
    exact World.rangeAt_setCells_same _ _ _ _ (by rw [hn]; exact h.2 i hi)
  · rw [List.getElem?_set_ne hki] at hk
    refine World.rangeAt_setCells_apart (h.1 k y hk) _ _ _ (.inr ?_)
    rw [hn, hn]
    have := idx_apart (n := n) (fun e => hki e.symm : k ≠ i)
    omega
theorem RowL.swap {α : Type} {enc : α → List Value} {n : Nat} {w : World} {g : Nat} (hn : ∀ x, (enc x).length = n) {A B C : List α} {u v : α} (h : RowL enc n w g (A ++ u :: (B ++ v :: C))) :
    RowL enc n ((w.setCells g (A.length * n) (enc v)).setCells g ((A.length + 1 + B.length) * n) (enc u)) g (A ++ v :: (B ++ u :: C)) := by
  have h1 := h.set hn A.length v (by simp)
  have h2 := h1.set hn (A.length + 1 + B.length) u (by simp; omega)
  have e : ((A ++ u :: (B ++ v :: C)).set A.length v).set (A.length + 1 + B.length) u = A ++ v :: (B ++ u :: C) := by
    rw [List.set_append_right _ _ (Nat.le_refl _), Nat.sub_self, List.set_cons_zero, List.set_append_right _ _ (by omega), show A.length + 1 + B.length - A.length = B.length + 1 from by omega, List.set_cons_succ,
      List.set_append_right _ _ (Nat.le_refl _), Nat.sub_self, List.set_cons_zero]
  rw [e] at h2
  exact h2
/-- the same, written the other way round -/
theorem RowL.swap' {α : Type} {enc : α → List Value} {n : Nat} {w : World} {g : Nat} (hn : ∀ x, (enc x).length = n) {A B C : List α} {u v : α} (h : RowL enc n w g (A ++ u :: (B ++ v :: C))) :
    RowL enc n ((w.setCells g ((A.length + 1 + B.length) * n) (enc u)).setCells g (A.length * n) (enc v)) g (A ++ v :: (B ++ u :: C)) := by
  have h1 := h.set hn (A.length + 1 + B.length) u (by simp; omega)
  have h2 := h1.set hn A.length v (by simp)
  have e : ((A ++ u :: (B ++ v :: C)).set (A.length + 1 + B.length) u).set A.length v = A ++ v :: (B ++ u :: C) := by
    rw [List.set_append_right _ _ (by omega), show A.length + 1 + B.length - A.length = B.length + 1 from by omega, List.set_cons_succ,
      List.set_append_right _ _ (Nat.le_refl _), Nat.sub_self, List.set_cons_zero, List.set_append_right _ _ (Nat.le_refl _), Nat.sub_self, List.set_cons_zero]
  rw [e] at h2
  exact h2
theorem at_mid {α : Type} (A B C : List α) (u v : α) : (A ++ u :: (B ++ v :: C))[A.length]? = some u ∧ (A ++ u :: (B ++ v :: C))[A.length + 1 + B.length]? = some v := by
  constructor
  · rw [List.getElem?_append_right (Nat.le_refl _), Nat.sub_self, List.getElem?_cons_zero]
  · rw [List.getElem?_append_right (by omega), show A.length + 1 + B.length - A.length = B.length + 1 from by omega, List.getElem?_cons_succ, List.getElem?_append_right (Nat.le_refl _), Nat.sub_self, List.getElem?_cons_zero]

/-- the n cells at a place -/
def loL (n : Nat) (w : World) (b o : Nat) : List Value := (List.range n).map fun j => (w.cell? ⟨b, o + j, none⟩).getD undef
def okL (n : Nat) (w : World) (b o : Nat) : Prop := ∀ j, j < n → (w.cell? ⟨b, o + j, none⟩).isSome = true
theorem loL_length (n : Nat) (w : World) (b o : Nat) : (loL n w b o).length = n := by simp [loL]
theorem loL_range {n : Nat} {w : World} {b o : Nat} (h : okL n w b o) : w.rangeAt b o (loL n w b o) := by
  intro j v hv
  have hj : j < n := by have := (List.getElem?_eq_some_iff.1 hv).1; rwa [loL_length] at this
  obtain ⟨u, hu⟩ := Option.isSome_iff_exists.1 (h j hj)
  simp [loL, hj, hu] at hv
  rw [hu, hv]
theorem loL_of {n : Nat} {w : World} {b o : Nat} {cs : List Value} (h : w.rangeAt b o cs) (hn : cs.length = n) : loL n w b o = cs ∧ okL n w b o := by
  refine ⟨List.ext_getElem? fun j => ?_, fun j hj => h.isSome j (by omega)⟩
  rcases Nat.lt_or_ge j n with hj | hj
  · have hc := h j _ (List.getElem?_eq_getElem (by omega))
    simp [loL, hj, hc]
  · rw [List.getElem?_eq_none (by rw [loL_length]; exact hj), List.getElem?_eq_none (by omega)]
theorem loL_drew (n : Nat) (w : World) (b o : Nat) : loL n w.drew b o = loL n w b o := rfl
theorem okL_drew (n : Nat) (w : World) (b o : Nat) : okL n w.drew b o ↔ okL n w b o := Iff.rfl
theorem run_load_rec {P : Program} {ty : TypeId} {d : TypeDesc} (n : Nat) (hu : P.underlying ty = some d) (hd : d.isRow = true) (hi : (P.info? ty).map (·.size) = some n) (w : World) (b o : Nat) (h : okL n w b o) :
    (Instr.loadAt ty (.pointer (some ⟨b, o, none⟩))).run P w = .ok (.agg (loL n w b o).toArray) w :=
  run_loadAt_mid w b o ty _ d (loL_range h) hu hd (by rw [loL_length]; exact hi)
theorem run_store_rec {P : Program} {ty : TypeId} (n : Nat) (hi : (P.info? ty).map (·.size) = some n) (w : World) (b o : Nat) (cs : List Value) (ht : w.there b o n) (hn : cs.length = n) (h1 : cs.all (·.oneCell') = true) :
    (Instr.storeAt ty (.pointer (some ⟨b, o, none⟩)) (.agg cs.toArray)).run P w = .ok () (w.setCells b o cs) := by
  have := run_storeAt_mid (P := P) w b o ty cs.toArray (by simpa [hn] using ht) (by simpa [hn] using hi) (by simpa using h1)
  simpa using this

/-- a load and a store of a whole record, kept shut to the walk -/
def recLoad (t : TypeId) (v : Value) : Sem Next := do pure (.value (← Instr.loadAt t v))
def recStore (t : TypeId) (v x : Value) : Sem Next := do Instr.storeAt t v x; pure .skip
theorem there_sc {w : World} {b' o' n : Nat} (h : w.there b' o' n) (b o : Nat) (vs : List Value) : (w.setCells b o vs).there b' o' n := World.there_setCells h b o vs

/-- a type of records: n cells each, a slice's type, an element's -/
structure Elem (P : Program) {α : Type} (enc : α → List Value) (n bytes : Nat) (sl e : TypeId) : Prop where
  und : P.underlying sl = some (.slice e)
  info : ∃ i z, P.info? e = some i ∧ i.zero = some z ∧ i.size = n ∧ i.bytes = bytes ∧ z.cells.size = n
  pos : 0 < n
  small : bytes ≤ 1000
  len : ∀ x, (enc x).length = n
  one : ∀ x, ∀ u ∈ enc x, u.oneCell' = true
theorem Elem.of {P : Program} {α : Type} {enc : α → List Value} {n bytes : Nat} {sl e : TypeId} (und : P.underlying sl = some (.slice e))
    (h : (P.info? e).bind (fun i => i.zero.map fun z => (i.size, i.bytes, z.cells.size)) = some (n, bytes, n)) (pos : 0 < n) (small : bytes ≤ 1000) (len : ∀ x, (enc x).length = n) (one : ∀ x, ∀ u ∈ enc x, u.oneCell' = true) : Elem P enc n bytes sl e := by
  refine ⟨und, ?_, pos, small, len, one⟩
  cases hi : P.info? e with
  | none => rw [hi] at h; cases h
  | some i =>
    rw [hi] at h
    cases hz : i.zero with
    | none => simp [hz] at h
    | some z =>
      simp [hz] at h
      exact ⟨i, z, rfl, hz, h.1, h.2.1, h.2.2⟩

section
variable {α : Type} {enc : α → List Value} {n : Nat}
/-- the cells of a list of records -/
def encL (enc : α → List Value) (l : List α) : List Value := l.flatMap enc
theorem encL_length (hn : ∀ x, (enc x).length = n) (l : List α) : (encL enc l).length = l.length * n := by
  induction l with
  | nil => simp [encL]
  | cons x l ih =>
    show (enc x ++ encL enc l).length = _
    rw [List.length_append, ih, hn, List.length_cons, Nat.succ_mul, Nat.add_comm]
theorem encL_append (l m : List α) : encL enc (l ++ m) = encL enc l ++ encL enc m := List.flatMap_append
theorem encL_at (hn : ∀ x, (enc x).length = n) {l : List α} {i : Nat} {x : α} (h : l[i]? = some x) {j : Nat} (hj : j < n) : (encL enc l)[i * n + j]? = (enc x)[j]? := by
  induction l generalizing i with
  | nil => cases h
  | cons y l ih =>
    show (enc y ++ encL enc l)[i * n + j]? = _
    cases i with
    | zero =>
      injection h with h
      subst h
      rw [List.getElem?_append_left (by rw [hn]; omega)]
      simp
    | succ i =>
      rw [List.getElem?_append_right (by rw [hn, Nat.succ_mul]; omega), ← ih (i := i) (by simpa using h), hn]
      congr 1
      rw [Nat.succ_mul]
      omega
theorem encL_take (hn : ∀ x, (enc x).length = n) (l : List α) (k : Nat) : (encL enc l).take (k * n) = encL enc (l.take k) := by
  induction l generalizing k with
  | nil => simp [encL]
  | cons y l ih =>
    cases k with
    | zero => simp [encL]
    | succ k =>
      show (enc y ++ encL enc l).take _ = enc y ++ encL enc (l.take k)
      rw [List.take_append, List.take_of_length_le (by rw [hn, Nat.succ_mul]; omega), hn, ← ih k]
      congr 2
      rw [Nat.succ_mul]
      omega

/-- the value is a slice of the records l -/
def LS (enc : α → List Value) (n : Nat) (w : World) (v : Value) (l : List α) : Prop :=
  ∃ (p : Option Addr) (cap : Nat), v = .slice p l.length cap ∧ l.length ≤ cap ∧ cap ≤ maxLen ∧
    (l ≠ [] → ∃ b o, p = some ⟨b, o, none⟩ ∧ b < w.heap.size ∧ ∀ i x, l[i]? = some x → w.rangeAt b (o + i * n) (enc x))
theorem LS.nil (w : World) : LS enc n w (.slice none 0 0) [] := ⟨none, 0, rfl, Nat.le_refl _, Nat.zero_le _, fun h => absurd rfl h⟩
theorem LS.keep {w w' : World} {v : Value} {l : List α} (h : LS enc n w v l) (hs : w.heap.size ≤ w'.heap.size) (hk : ∀ b, v.ownBlock = some b → b < w.heap.size → w'.heap[b]? = w.heap[b]?) : LS enc n w' v l := by
  obtain ⟨p, cap, rfl, h1, h2, h3⟩ := h
  refine ⟨p, cap, rfl, h1, h2, fun hl => ?_⟩
  obtain ⟨b, o, rfl, hb, hc⟩ := h3 hl
  refine ⟨b, o, rfl, by omega, fun i x hx j u hu => ?_⟩
  rw [World.cell?_of_block (w := w) (a := ⟨b, _, none⟩) (hk b rfl hb)]
  exact hc i x hx j u hu
theorem LS.below {w w' : World} {v : Value} {l : List α} (h : LS enc n w v l) (hb : Below w.heap.size w w') : LS enc n w' v l := h.keep hb.size fun b _ hlt => hb.block b hlt
theorem LS.alloc {w : World} {v : Value} {l : List α} (h : LS enc n w v l) (o : Obj) : LS enc n (w.alloc o) v l := h.below ((Below.refl _ _).alloc (Nat.le_refl _) _)
theorem LS.drew {w : World} {v : Value} {l : List α} (h : LS enc n w v l) : LS enc n w.drew v l := h.below (Below.refl _ _).drew
/-- one record of it -/
theorem LS.at {w : World} {p : Option Addr} {m cap : Nat} {l : List α} (h : LS enc n w (.slice p m cap) l) {i : Nat} {x : α} (hx : l[i]? = some x) : ∃ b o, p = some ⟨b, o, none⟩ ∧ b < w.heap.size ∧ w.rangeAt b (o + i * n) (enc x) := by
  obtain ⟨p', cap', e, h1, h2, h3⟩ := h
  injection e with e1 e2 e3
  subst e1
  obtain ⟨b, o, e, hb, hc⟩ := h3 (by intro h; subst h; cases hx)
  exact ⟨b, o, e, hb, hc i x hx⟩
theorem LS.length {w : World} {p : Option Addr} {m cap : Nat} {l : List α} (h : LS enc n w (.slice p m cap) l) : m = l.length ∧ m ≤ cap ∧ cap ≤ maxLen := by
  obtain ⟨p', cap', e, h1, h2, h3⟩ := h
  injection e with e1 e2 e3
  subst e2; subst e3
  exact ⟨rfl, h1, h2⟩
theorem LS.shape {w : World} {v : Value} {l : List α} (h : LS enc n w v l) : ∃ p cap, v = .slice p l.length cap := by
  obtain ⟨p, cap, e, _⟩ := h
  exact ⟨p, cap, e⟩
/-- 'v[:k]' and 'v[k:]' -/
theorem LS.take {w : World} {p : Option Addr} {m cap : Nat} {l : List α} (h : LS enc n w (.slice p m cap) l) {k : Nat} (hk : k ≤ m) : LS enc n w (.slice p k cap) (l.take k) := by
  obtain ⟨hm, hc, hx⟩ := h.length
  have e : (l.take k).length = k := by rw [List.length_take]; omega
  refine ⟨p, cap, by rw [e], by omega, hx, fun hne => ?_⟩
  have hk0 : 0 < k := by rcases Nat.eq_zero_or_pos k with h | h; · subst h; exact absurd rfl hne
                         · exact h
  obtain ⟨p', cap', e', h1, h2, h3⟩ := h
  injection e' with e1 e2 e3
  subst e1
  obtain ⟨b, o, e', hb, hcell⟩ := h3 (by intro h; subst h; simp at hm; omega)
  refine ⟨b, o, e', hb, fun i x hi => hcell i x ?_⟩
  rw [List.getElem?_take] at hi
  split at hi
  · exact hi
  · cases hi
theorem LS.drop {w : World} {b o : Nat} {m cap : Nat} {l : List α} (h : LS enc n w (.slice (some ⟨b, o, none⟩) m cap) l) {k : Nat} (hk : k ≤ m) : LS enc n w (.slice (some ⟨b, o + k * n, none⟩) (m - k) (cap - k)) (l.drop k) := by
  obtain ⟨hm, hc, hx⟩ := h.length
  have e : (l.drop k).length = m - k := by rw [List.length_drop]; omega
  refine ⟨_, cap - k, by rw [e], by omega, by omega, fun hne => ?_⟩
  obtain ⟨p', cap', e', h1, h2, h3⟩ := h
  injection e' with e1 e2 e3
  subst e1
  obtain ⟨b', o', e', hb, hcell⟩ := h3 (by intro h; subst h; simp at hne)
  injection e' with e'
  injection e' with e1 e2
  subst e1; subst e2
  refine ⟨b, o + k * n, rfl, hb, fun i x hi => ?_⟩
  rw [List.getElem?_drop] at hi
  have := hcell (k + i) x hi
  rwa [Nat.add_mul, ← Nat.add_assoc] at this

/-- a row of the call's own is such a slice; and it may be written -/
theorem RowL.of_block {w : World} {g : Nat} {cur : Array Value} {e : TypeId} {l : List α} (hh : w.heap[g]? = some (.cells cur e (0, 0))) (hn : ∀ x, (enc x).length = n) (hle : l.length * n ≤ cur.size) (htk : cur.toList.take (l.length * n) = encL enc l) : RowL enc n w g l := by
  have key : ∀ i x, l[i]? = some x → ∀ j, j < n → cur[i * n + j]? = (enc x)[j]? := by
    intro i x hx j hj
    have hi := (List.getElem?_eq_some_iff.1 hx).1
    have hlt : i * n + j < l.length * n := by
      have := Nat.mul_le_mul_right n (show i + 1 ≤ l.length by omega)
      rw [Nat.succ_mul] at this
      omega
    rw [← encL_at hn hx hj, ← htk, List.getElem?_take_of_lt hlt]
    simp
  refine ⟨fun i x hx j u hu => ?_, fun i hi j hj => ?_⟩
  · have hj := (List.getElem?_eq_some_iff.1 hu).1
    rw [hn] at hj
    rw [cell_of_row w g _ cur _ _ hh, key i x hx j hj, hu]
  · have hlt : i * n + j < cur.size := by
      have := Nat.mul_le_mul_right n (show i + 1 ≤ l.length by omega)
      rw [Nat.succ_mul] at this
      omega
    rw [cell_of_row w g _ cur _ _ hh, frozen_of_row w g _ cur _ hh]
    exact ⟨by rw [Array.getElem?_eq_getElem hlt]; rfl, rfl⟩
theorem RowL.slice {w : World} {g cap : Nat} {l : List α} (h : RowL enc n w g l) (hn : ∀ x, (enc x).length = n) (hp : 0 < n) (hc : l.length ≤ cap) (hm : cap ≤ maxLen) : LS enc n w (.slice (some ⟨g, 0, none⟩) l.length cap) l := by
  refine ⟨_, cap, rfl, hc, hm, fun hne => ⟨g, 0, rfl, ?_, fun i x hx => ?_⟩⟩
  · have h0 := h.2 0 (by cases l with
      | nil => exact absurd rfl hne
      | cons a l => simp) 0 hp
    obtain ⟨u, hu⟩ := Option.isSome_iff_exists.1 h0.1
    exact cell_blockW hu
  · rw [Nat.zero_add]
    exact h.1 i x hx
theorem recs_cases {w : World} {base e : Nat} {v : Value} {m : Nat} {l : List α} (h : w.ownsRow base e n v m (encL enc l)) (hn : ∀ x, (enc x).length = n) (hp : 0 < n) :
    m = l.length ∧ ((v = .slice none 0 0 ∧ l = []) ∨ ∃ g cap, v = .slice (some ⟨g, 0, none⟩) l.length cap ∧ base ≤ g ∧ g < w.heap.size ∧ l.length ≤ cap ∧ cap ≤ maxLen ∧ RowL enc n w g l) := by
  obtain ⟨hlen, hor⟩ := h
  rw [encL_length hn] at hlen
  have hm : m = l.length := (Nat.eq_of_mul_eq_mul_right hp hlen).symm
  refine ⟨hm, ?_⟩
  subst hm
  rcases hor with ⟨rfl, h0⟩ | ⟨g, cap, cur, rfl, hg, hh, hnc, hcm, hcs, htk⟩
  · exact .inl ⟨rfl, List.length_eq_zero_iff.1 h0⟩
  · refine .inr ⟨g, cap, rfl, hg, ?_, hnc, hcm, RowL.of_block hh hn (by rw [hcs]; exact Nat.mul_le_mul_right n hnc) htk⟩
    rcases Nat.lt_or_ge g w.heap.size with hlt | hge
    · exact hlt
    · rw [Array.getElem?_eq_none hge] at hh; cases hh
theorem LS.of_own {w : World} {base e : Nat} {v : Value} {m : Nat} {l : List α} (h : w.ownsRow base e n v m (encL enc l)) (hn : ∀ x, (enc x).length = n) (hp : 0 < n) : LS enc n w v l := by
  obtain ⟨hm, ⟨rfl, rfl⟩ | ⟨g, cap, rfl, hg, hlt, hc, hx, hr⟩⟩ := recs_cases h hn hp
  · exact LS.nil w
  · exact hr.slice hn hp hc hx
/-- the front of one -/
theorem recs_take {w : World} {base e : Nat} {p : Option Addr} {m cap : Nat} {l : List α} (h : w.ownsRow base e n (.slice p m cap) m (encL enc l)) (hn : ∀ x, (enc x).length = n) {k : Nat} (hk : k ≤ m) : w.ownsRow base e n (.slice p k cap) k (encL enc (l.take k)) := by
  obtain ⟨hlen, hor⟩ := h
  refine ⟨?_, ?_⟩
  · rw [← encL_take hn, List.length_take, hlen]
    exact Nat.min_eq_left (Nat.mul_le_mul_right n hk)
  · rcases hor with ⟨e1, h0⟩ | ⟨g, c, cur, e1, hg, hh, hnc, hcm, hcs, htk⟩
    · injection e1 with e1 e2 e3
      subst e1; subst e2; subst e3
      exact .inl ⟨by rw [Nat.le_zero.1 hk], Nat.le_zero.1 hk⟩
    · injection e1 with e1 e2 e3
      subst e1; subst e3
      refine .inr ⟨g, cap, cur, rfl, hg, hh, by omega, hcm, hcs, ?_⟩
      rw [← encL_take hn, ← htk, List.take_take, Nat.min_eq_left (Nat.mul_le_mul_right n hk)]
theorem recs_of_row {w : World} {base e g : Nat} (hg : w.heap[g]? = some (.cells #[] e (0, 0))) (hb : base ≤ g) : w.ownsRow base e n (.slice (some ⟨g, 0, none⟩) 0 0) 0 (encL enc []) :=
  ⟨by simp [encL], .inr ⟨g, 0, #[], rfl, hb, hg, Nat.le_refl _, Nat.zero_le _, by simp, by simp [encL]⟩⟩
theorem recs_keep {w w' : World} {base e m : Nat} {v : Value} {xs : List Value} (h : w.ownsRow base e n v m xs) (hk : ∀ b, v.ownBlock = some b → b < w.heap.size → w'.heap[b]? = w.heap[b]?) : w'.ownsRow base e n v m xs := by
  obtain ⟨h1, h2⟩ := h
  refine ⟨h1, ?_⟩
  rcases h2 with h2 | ⟨g, cap, cur, e1, hg, hh, h3⟩
  · exact .inl h2
  · subst e1
    exact .inr ⟨g, cap, cur, rfl, hg, (hk g rfl (by
      rcases Nat.lt_or_ge g w.heap.size with hlt | hge
      · exact hlt
      · rw [Array.getElem?_eq_none hge] at hh; cases hh)).trans hh, h3⟩
theorem recs_below {w w' : World} {base e m : Nat} {v : Value} {xs : List Value} (h : w.ownsRow base e n v m xs) (hb : Below w.heap.size w w') : w'.ownsRow base e n v m xs := recs_keep h fun b _ hlt => hb.block b hlt
theorem recs_base {w : World} {base e m : Nat} {v : Value} {xs : List Value} (h : w.ownsRow base e n v m xs) {b : Nat} (hb : v.ownBlock = some b) : base ≤ b ∧ b < w.heap.size := by
  rcases h.2 with ⟨rfl, _⟩ | ⟨g, cap, cur, rfl, hg, hh, _⟩
  · cases hb
  · injection hb with hb
    simp at hb
    subst hb
    refine ⟨hg, ?_⟩
    rcases Nat.lt_or_ge g w.heap.size with hlt | hge
    · exact hlt
    · rw [Array.getElem?_eq_none hge] at hh; cases hh
/-- 'append(v, x...)' of records -/
theorem run_append_recs {P : Program} {bytes sl e : Nat} (E : Elem P enc n bytes sl e) (w : World) (base : Nat) (ty : TypeId) (v : Value) (m : Nat) (d : List α) (hown : w.ownsRow base e n v m (encL enc d)) (x : Value) (l : List α) (hx : LS enc n w x l) (hn : m + l.length ≤ 1073741824) (hbase : base ≤ w.heap.size) :
    ∃ v' w', (Builtin.append_ #[sl, sl] ty #[v, x]).run P w = .ok v' w' ∧ w'.ownsRow base e n v' (m + l.length) (encL enc (d ++ l)) ∧ w.grownBy w' v.ownBlock ∧
      (v' = .slice none 0 0 ↔ v = .slice none 0 0 ∧ l = []) ∧ (v'.ownBlock = v.ownBlock ∨ v'.ownBlock = some w.heap.size) := by
  obtain ⟨i0, z0, hi0, hi1, hi2, hi3, hi4⟩ := E.info
  obtain ⟨p, cap, rfl, h1, h2, h3⟩ := hx
  cases p with
  | none =>
    have hl : l = [] := by
      by_cases hl : l = []
      · exact hl
      · obtain ⟨b, o, h, _⟩ := h3 hl; cases h
    subst hl
    exact ⟨v, w, run_append_none w base _ ty _ i0 n E.und hi0 v m _ hown cap, by simpa using hown, World.grownBy.refl w _, by simp, .inl rfl⟩
  | some ad =>
    obtain ⟨v', w', hr, g1, g2, g3, g4⟩ := run_append_own_at (P := P) w base sl ty _ i0 _ n bytes E.und hi0 hi1 hi2 hi3 hi4 E.pos v m _ hown ad l.length cap (encL enc l) (encL_length E.len l) (fun j u hu => by
        have hj := (List.getElem?_eq_some_iff.1 hu).1
        rw [encL_length E.len] at hj
        have hl : l ≠ [] := by intro h; subst h; simp [encL] at hu
        obtain ⟨b, o, e, hb, hc⟩ := h3 hl
        injection e with e
        subst e
        have hq : j / n < l.length := (Nat.div_lt_iff_lt_mul E.pos).2 hj
        have hr : j % n < n := Nat.mod_lt _ E.pos
        have hje : j / n * n + j % n = j := by rw [Nat.mul_comm]; exact Nat.div_add_mod j n
        obtain ⟨y, hy⟩ : ∃ y, l[j / n]? = some y := ⟨_, List.getElem?_eq_getElem hq⟩
        have h5 := encL_at E.len hy hr
        rw [hje, hu] at h5
        rw [Go.WideShapes.add_plain]
        have := hc _ y hy (j % n) u h5.symm
        rwa [Nat.add_assoc, hje] at this) (fun u hu => by
          obtain ⟨y, _, hy⟩ := List.mem_flatMap.1 hu
          exact E.one y u hy) (by simp only [maxLen]; omega) (by
          have h5 := E.small
          have h6 := Nat.mul_le_mul (show m + l.length ≤ 1073741824 from hn) h5
          omega) hbase
    rw [encL_append]
    exact ⟨v', w', hr, g1, g2, by rw [g3]; simp [List.length_eq_zero_iff], g4⟩
theorem wpList_append_recs {P : Program} {bytes sl e : Nat} (E : Elem P enc n bytes sl e) {ops : Array Oper} {rest : List Oper} {o : Oper} {a : Act} {Q : Exit → Act → World → Prop} {w : World} (hgd : o.guard = none) (s x : Operand)
    (ho : o.op = .call { callee := .builtin .append, args := #[s, x], argTypes := #[sl, sl] }) (base : Nat) (v : Value) (m : Nat) (d : List α) (hs : a.eval s = v) (hown : w.ownsRow base e n v m (encL enc d))
    (y : Value) (l : List α) (hx : a.eval x = y) (hb : LS enc n w y l) (hn : m + l.length ≤ 1073741824) (hbase : base ≤ w.heap.size)
    (h : ∀ v' w', w'.ownsRow base e n v' (m + l.length) (encL enc (d ++ l)) → w.grownBy w' v.ownBlock → (v' = .slice none 0 0 ↔ v = .slice none 0 0 ∧ l = []) → (v'.ownBlock = v.ownBlock ∨ v'.ownBlock = some w.heap.size) → wpList P ops Q rest (a.put o.dst v') w') :
    wpList P ops Q (o :: rest) a w := by
  obtain ⟨v', w', hr, g1, g2, g3, g4⟩ := run_append_recs E w base o.type v m d hown y l hb hn hbase
  exact Lib.wpList_append_run w hgd s x _ _ ho v y hs hx v' w' hr (h v' w' g1 g2 g3 g4)
theorem step_append_recs {P : Program} {bytes sl e : Nat} (E : Elem P enc n bytes sl e) {ops : Array Oper} {o : Oper} {a : Act} {K : Act → World → Prop} {Q : Exit → Act → World → Prop} {F : Prop} {w : World} (hgd : o.guard = none) (s x : Operand)
    (ho : o.op = .call { callee := .builtin .append, args := #[s, x], argTypes := #[sl, sl] }) (base : Nat) (v : Value) (m : Nat) (d : List α) (hs : a.eval s = v) (hown : w.ownsRow base e n v m (encL enc d))
    (y : Value) (l : List α) (hx : a.eval x = y) (hb : LS enc n w y l) (hn : m + l.length ≤ 1073741824) (hbase : base ≤ w.heap.size)
    (h : ∀ v' w', w'.ownsRow base e n v' (m + l.length) (encL enc (d ++ l)) → w.grownBy w' v.ownBlock → (v' = .slice none 0 0 ↔ v = .slice none 0 0 ∧ l = []) → K (a.put o.dst v') w') :
    if Region.wanted o (yielded ops a.tmps) = true then Oper.wp P o a w K Q else F := by
  have hw : Region.wanted o (yielded ops a.tmps) = true := by simp [Region.wanted, hgd]
  rw [if_pos hw]
  obtain ⟨v', w', hr, g1, g2, g3, _⟩ := run_append_recs E w base o.type v m d hown y l hb hn hbase
  exact Lib.wp_append_run w s x _ _ ho v _ hs hx v' w' hr (h v' w' g1 g2 g3)
/-- what an own slice holds -/
def Mine (enc : α → List Value) (n : Nat) (w : World) (base : Nat) (v : Value) (l : List α) : Prop :=
  (v = .slice none 0 0 ∧ l = []) ∨ ∃ g cap, v = .slice (some ⟨g, 0, none⟩) l.length cap ∧ base ≤ g ∧ g < w.heap.size ∧ l.length ≤ cap ∧ cap ≤ maxLen ∧ RowL enc n w g l
theorem Mine.ls {w : World} {base : Nat} {v : Value} {l : List α} (h : Mine enc n w base v l) (hn : ∀ x, (enc x).length = n) (hp : 0 < n) : LS enc n w v l := by
  rcases h with ⟨rfl, rfl⟩ | ⟨g, cap, rfl, _, _, hc, hx, hr⟩
  · exact LS.nil w
  · exact hr.slice hn hp hc hx
theorem Mine.below {w w' : World} {base : Nat} {v : Value} {l : List α} (h : Mine enc n w base v l) (hb : Below w.heap.size w w') : Mine enc n w' base v l := by
  rcases h with ⟨rfl, rfl⟩ | ⟨g, cap, rfl, h1, h2, hc, hx, hr⟩
  · exact .inl ⟨rfl, rfl⟩
  · exact .inr ⟨g, cap, rfl, h1, Nat.lt_of_lt_of_le h2 hb.size, hc, hx, hr.below h2 hb⟩
theorem Mine.of_own {w : World} {base e : Nat} {v : Value} {m : Nat} {l : List α} (h : w.ownsRow base e n v m (encL enc l)) (hn : ∀ x, (enc x).length = n) (hp : 0 < n) : Mine enc n w base v l := (recs_cases h hn hp).2
end
end Go.Proofs.Ytadabjkhiaidcaa
