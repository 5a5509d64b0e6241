/- Words for memory: a slice of bytes that reads as a list; append of bytes; what a call that writes only blocks of some types keeps. -/
import Derived.Test.YtbmphlpmipkpcaaGreatRsm1
import Derived.WalkKit
import Derived.WalkSpells
import Derived.WalkLawsBesides
import Derived.Lib.Hide
import Derived.Lib.SliceRun
import Derived.Lib.AppendZeros
import Derived.Laws.BytesArg
import Derived.Laws.IdiomStrings
import Derived.Laws.Rows
import Derived.Maps.AppendAt
import Derived.OwnWalk
import Derived.Deep.Slices

set_option linter.unusedVariables false
set_option linter.unusedSimpArgs false
namespace Go.Proofs.YtbmphlpmipkpcaaGreat
open Go.RowKit

theorem new_rowW (w : World) (o : Obj) (n : Nat) (hn : n = w.heap.size) : (w.alloc o).heap[n]? = some o := by
  subst hn
  show (w.heap.push o)[w.heap.size]? = _
  simp
theorem cell_blockW {w : World} {a : Addr} {v : Value} (h : w.cell? a = some v) : a.block < w.heap.size := by
  unfold World.cell? at h
  split at h
  · rename_i c e f hh
    rcases Nat.lt_or_ge a.block w.heap.size with h1 | h1
    · exact h1
    · rw [Array.getElem?_eq_none h1] at hh; cases hh
  · cases h
theorem ret_boolW {a b : Bool} (h : a = b) : Ending.returned (.bool a) = .returned (.bool b) := by rw [h]
def bytesV (l : List UInt8) : List Value := l.map fun x => .int .u8 (x.toNat : Int)
theorem bytesV_length (l : List UInt8) : (bytesV l).length = l.length := by simp [bytesV]
theorem bytesV_append (l m : List UInt8) : bytesV (l ++ m) = bytesV l ++ bytesV m := by simp [bytesV]
theorem bytesV_at (l : List UInt8) (i : Nat) : (bytesV l)[i]? = l[i]?.map fun x => .int .u8 (x.toNat : Int) := by simp [bytesV]
theorem bytesV_one (l : List UInt8) : ∀ u ∈ bytesV l, u.oneCell' = true := by
  intro u hu
  obtain ⟨x, _, rfl⟩ := List.mem_map.1 hu
  rfl

/-- the value is a slice of the bytes l -/
def BS (w : World) (v : Value) (l : List UInt8) : Prop :=
  ∃ (p : Option Addr) (cap : Nat), v = .slice p l.length cap ∧ l.length ≤ cap ∧ cap ≤ maxLen ∧
    (l ≠ [] → ∃ b o, p = some ⟨b, o, none⟩ ∧ b < w.heap.size ∧ ∀ i x, l[i]? = some x → w.cell? ⟨b, o + i, none⟩ = some (.int .u8 (x.toNat : Int)))

theorem BS.nil (w : World) : BS w (.slice none 0 0) [] := ⟨none, 0, rfl, Nat.le_refl _, Nat.zero_le _, fun h => absurd rfl h⟩
theorem BS.keep {w w' : World} {v : Value} {l : List UInt8} (h : BS w v l) (hs : w.heap.size ≤ w'.heap.size)
    (hk : ∀ b o, v.ownBlock = some b → b < w.heap.size → w'.cell? ⟨b, o, none⟩ = w.cell? ⟨b, o, none⟩) : BS w' v l := by
  obtain ⟨p, cap, rfl, h1, h2, h3⟩ := h
  refine ⟨p, cap, rfl, h1, h2, fun hl => ?_⟩
  obtain ⟨b, o, rfl, hb, hc⟩ := h3 hl
  exact ⟨b, o, rfl, by omega, fun i x hx => (hk b _ rfl hb).trans (hc i x hx)⟩
theorem BS.below {w w' : World} {v : Value} {l : List UInt8} (h : BS w v l) (hb : Below w.heap.size w w') : BS w' v l :=
  h.keep hb.size fun b o _ hlt => hb.cell (p := ⟨b, o, none⟩) hlt
theorem BS.alloc {w : World} {v : Value} {l : List UInt8} (h : BS w v l) (o : Obj) : BS (w.alloc o) v l := h.below ((Below.refl _ _).alloc (Nat.le_refl _) _)
theorem BS.drew {w : World} {v : Value} {l : List UInt8} (h : BS w v l) : BS w.drew v l := h.below (Below.refl _ _).drew

/-- 'string(b)' -/
theorem BS.string {P : Program} {w : World} {v : Value} {l : List UInt8} (h : BS w v l) {src dst e : TypeId} (hs : P.underlying src = some (.slice e)) (he : P.underlying e = some (.int .u8)) (hd : P.underlying dst = some .string) :
    (convert src dst v).run P w = .ok (.string ⟨l.toArray⟩) w := by
  obtain ⟨p, cap, rfl, h1, h2, h3⟩ := h
  by_cases hl : l = []
  · subst hl
    cases p with
    | none => exact run_convert_bytes_nil w src e hs he 0 cap dst hd
    | some a => exact run_convert_bytes_back w src dst e a cap [] hs he hd (fun j hj => absurd hj (by simp))
  · obtain ⟨b, o, rfl, hb, hc⟩ := h3 hl
    refine run_convert_bytes_back w src dst e ⟨b, o, none⟩ cap l hs he hd fun j hj => ?_
    rw [Go.WideShapes.add_plain]
    exact hc j _ (List.getElem?_eq_getElem hj)
theorem BS.to_string {w : World} {v : Value} {l : List UInt8} (h : BS w v l) : (convert 47 9 v).run Tryz.prog w = .ok (.string ⟨l.toArray⟩) w :=
  h.string Tryz.underlying47 Tryz.underlying5 Tryz.underlying9

/-- a row of the call's own is a slice of bytes -/
theorem BS.of_own {w : World} {base e : Nat} {v : Value} {n : Nat} {l : List UInt8} (h : w.ownsRow base e 1 v n (bytesV l)) : BS w v l := by
  obtain ⟨hlen, hor⟩ := h
  have hn : n = l.length := by simpa [bytesV] using hlen.symm
  subst hn
  rcases hor with ⟨rfl, h0⟩ | ⟨g, cap, cur, rfl, hg, hh, hnc, hcm, hcs, htk⟩
  · have : l = [] := List.length_eq_zero_iff.1 h0
    subst this
    exact BS.nil w
  · refine ⟨_, cap, rfl, hnc, hcm, fun hl => ⟨g, 0, rfl, ?_, fun i x hx => ?_⟩⟩
    · rcases Nat.lt_or_ge g w.heap.size with hlt | hge
      · exact hlt
      · rw [Array.getElem?_eq_none hge] at hh; cases hh
    · have hi : i < l.length := (List.getElem?_eq_some_iff.1 hx).1
      rw [cell_of_row w g _ cur _ _ hh, Nat.zero_add]
      have h1 : (cur.toList.take (l.length * 1))[i]? = some (.int .u8 (x.toNat : Int)) := by rw [htk, bytesV_at, hx]; rfl
      rw [List.getElem?_take_of_lt (by omega)] at h1
      simpa using h1

theorem byte_info : ∃ i, Tryz.prog.info? 5 = some i ∧ i.zero = some (.int .u8 0) ∧ i.size = 1 ∧ i.bytes = 1 := by
  have h : (Tryz.prog.info? 5).map (fun i => (i.zero, i.size, i.bytes)) = some (some (.int .u8 0), 1, 1) := by kernel_rfl
  cases hi : Tryz.prog.info? 5 with
  | none => rw [hi] at h; cases h
  | some i =>
    rw [hi] at h
    injection h with h
    injection h with h1 h2
    injection h2 with h2 h3
    exact ⟨i, rfl, h1, h2, h3⟩
theorem run_append_none {P : Program} (w : World) (base : Nat) (t ty e : TypeId) (i : TypeInfo) (size : Nat) (ht : P.underlying t = some (.slice e)) (hi : P.info? e = some i)
    (v : Value) (n : Nat) (xs : List Value) (hown : w.ownsRow base e size v n xs) (c : Nat) : (Builtin.append_ #[t, t] ty #[v, .slice none 0 c]).run P w = .ok v w := by
  rcases hown.2 with ⟨rfl, rfl⟩ | ⟨g, cap, cur, rfl, _, _, hnc, _⟩
  · simp [Builtin.append_, run_underlying ht, sizeOf, typeInfo, hi, Builtin.lenOf, Builtin.firstCells]
  · simp [Builtin.append_, run_underlying ht, sizeOf, typeInfo, hi, Builtin.lenOf, Builtin.firstCells, hnc, storeCells]
set_option maxRecDepth 4000 in
/-- 'append(v, x...)' of bytes -/
theorem run_append_bytes (w : World) (base : Nat) (ty : TypeId) (v : Value) (n : Nat) (xs : List Value) (hown : w.ownsRow base 5 1 v n xs) (x : Value) (l : List UInt8) (hx : BS w x l) (hn : n + l.length ≤ 1099511627776) (hbase : base ≤ w.heap.size) :
    ∃ v' w', (Builtin.append_ #[47, 47] ty #[v, x]).run Tryz.prog w = .ok v' w' ∧ w'.ownsRow base 5 1 v' (n + l.length) (xs ++ bytesV l) ∧ w.grownBy w' v.ownBlock ∧
      (v' = .slice none 0 0 ↔ v = .slice none 0 0 ∧ l = []) ∧ (v'.ownBlock = v.ownBlock ∨ v'.ownBlock = some w.heap.size) := by
  obtain ⟨i0, hi0, hi1, hi2, hi3⟩ := byte_info
  obtain ⟨p, cap, rfl, h1, h2, h3⟩ := hx
  cases p with
  | none =>
    have hl : l = [] := by
      by_cases hl : l = []
      · exact hl
      · obtain ⟨b, o, h, _⟩ := h3 hl; cases h
    subst hl
    exact ⟨v, w, run_append_none w base _ ty _ i0 1 Tryz.underlying47 hi0 v n xs hown cap, by simpa [bytesV] using hown, World.grownBy.refl w _, by simp, .inl rfl⟩
  | some ad =>
    obtain ⟨v', w', hr, g1, g2, g3, g4⟩ := run_append_own_at (P := Tryz.prog) w base 47 ty _ i0 _ 1 1 Tryz.underlying47 hi0 hi1 hi2 hi3 rfl (by decide) v n xs hown ad l.length cap (bytesV l) (by simp [bytesV]) (fun j u hu => by
        rw [bytesV_at] at hu
        cases hx : l[j]? with
        | none => rw [hx] at hu; cases hu
        | some y =>
          rw [hx] at hu
          injection hu with hu
          obtain ⟨b, o, e, hb, hc⟩ := h3 (by intro h; subst h; simp at hx)
          injection e with e
          subst e
          rw [Go.WideShapes.add_plain, hc j y hx, ← hu]) (bytesV_one l) (by simp only [maxLen]; omega) (by omega) hbase
    exact ⟨v', w', hr, g1, g2, by rw [g3]; simp [List.length_eq_zero_iff], g4⟩
theorem wpList_append_bytes {ops : Array Oper} {rest : List Oper} {o : Oper} {a : Act} {Q : Exit → Act → World → Prop} {w : World} (hgd : o.guard = none) (s x : Operand)
    (ho : o.op = .call { callee := .builtin .append, args := #[s, x], argTypes := #[47, 47] }) (base : Nat) (v : Value) (n : Nat) (xs : List Value) (hs : a.eval s = v) (hown : w.ownsRow base 5 1 v n xs)
    (y : Value) (l : List UInt8) (hx : a.eval x = y) (hb : BS w y l) (hn : n + l.length ≤ 1099511627776) (hbase : base ≤ w.heap.size)
    (h : ∀ v' w', w'.ownsRow base 5 1 v' (n + l.length) (xs ++ bytesV l) → w.grownBy w' v.ownBlock → (v' = .slice none 0 0 ↔ v = .slice none 0 0 ∧ l = []) → (v'.ownBlock = v.ownBlock ∨ v'.ownBlock = some w.heap.size) → wpList Tryz.prog ops Q rest (a.put o.dst v') w') :
    wpList Tryz.prog ops Q (o :: rest) a w := by
  obtain ⟨v', w', hr, g1, g2, g3, g4⟩ := run_append_bytes w base o.type v n xs hown y l hb hn hbase
  exact Lib.wpList_append_run w hgd s x _ _ ho v y hs hx v' w' hr (h v' w' g1 g2 g3 g4)

/-- WHAT A CALL KEEPS that writes only blocks whose elements are of the types T: every other old block is as it was. -/
structure Kept (T : List TypeId) (w w' : World) : Prop where
  size : w.heap.size ≤ w'.heap.size
  block : ∀ (i : Nat) (cs : Array Value) (t : TypeId) (fr : Nat × Nat), w.heap[i]? = some (Obj.cells cs t fr) → t ∉ T → w'.heap[i]? = some (Obj.cells cs t fr)
theorem Kept.refl (T : List TypeId) (w : World) : Kept T w w := ⟨Nat.le_refl _, fun _ _ _ _ h _ => h⟩
theorem Kept.trans {T : List TypeId} {a b c : World} (h : Kept T a b) (k : Kept T b c) : Kept T a c := ⟨Nat.le_trans h.size k.size, fun i cs t fr hi ht => k.block i cs t fr (h.block i cs t fr hi ht) ht⟩
theorem block_lt {w : World} {i : Nat} {o : Obj} (h : w.heap[i]? = some o) : i < w.heap.size := by
  rcases Nat.lt_or_ge i w.heap.size with h1 | h1
  · exact h1
  · rw [Array.getElem?_eq_none h1] at h; cases h
theorem Kept.of_below {T : List TypeId} {w w' : World} (h : Below w.heap.size w w') : Kept T w w' := ⟨h.size, fun i cs t fr hi _ => (h.block i (block_lt hi)).trans hi⟩
theorem Kept.alloc {T : List TypeId} {a w : World} (h : Kept T a w) (o : Obj) : Kept T a (w.alloc o) := h.trans (.of_below ((Below.refl _ _).alloc (Nat.le_refl _) _))
theorem Kept.setCell {T : List TypeId} {a w : World} (h : Kept T a w) {g i : Nat} {cs : Array Value} {t : TypeId} {fr : Nat × Nat} (hg : w.heap[g]? = some (.cells cs t fr)) (ht : t ∈ T) (v : Value) : Kept T a (w.setCell ⟨g, i, none⟩ v) :=
  h.trans ⟨by simp, fun i cs' t' fr' hi ht' => by
    rw [heap_setCell_other w _ i v (fun e => by subst e; rw [hg] at hi; injection hi with hi; injection hi with h1 h2 h3; subst h2; exact ht' ht)]
    exact hi⟩
end Go.Proofs.YtbmphlpmipkpcaaGreat
