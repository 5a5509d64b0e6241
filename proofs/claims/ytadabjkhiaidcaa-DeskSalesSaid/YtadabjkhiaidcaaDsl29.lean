/- Contracts: how a ticket's parts are taken (the ways of the ticket package, with a reader). Contracts: numbers and lists of a ticket that are taken. -/
import Derived.Test.YtadabjkhiaidcaaDsl28
import Derived.Test.YtadabjkhiaidcaaDsl13
import Derived.Test.YtadabjkhiaidcaaDsl25

section
set_option linter.unusedVariables false
set_option linter.unusedSimpArgs false
namespace Go.Proofs.Ytadabjkhiaidcaa
open Go.RowKit

end Go.Proofs.Ytadabjkhiaidcaa
end

section
set_option linter.unusedVariables false
set_option linter.unusedSimpArgs false
namespace Go.Proofs.Ytadabjkhiaidcaa
open Go.RowKit

/-- numbers of eight bytes, each to its place -/
def ovF (x : Array Value × Option (List UInt8)) (o : Nat) : Array Value × Option (List UInt8) := (x.1.setIfInBounds o (.int .u64 (rNumV x.2 8 : Int)), rNumS x.2 8)
def ovR (cs : Array Value) (st : Option (List UInt8)) (os : List Nat) : Array Value × Option (List UInt8) := os.foldl ovF (cs, st)
theorem ovR_snoc (cs : Array Value) (st : Option (List UInt8)) (os : List Nat) (o : Nat) : ovR cs st (os ++ [o]) = ovF (ovR cs st os) o := by unfold ovR; rw [List.foldl_append]; rfl
theorem ovR_size (cs : Array Value) : ∀ (os : List Nat) (st : Option (List UInt8)), (ovR cs st os).1.size = cs.size := by
  intro os
  refine Wire.snocRec (M := fun os => ∀ st, (ovR cs st os).1.size = cs.size) (fun st => rfl) (fun l x ih st => ?_) os
  rw [ovR_snoc]
  show ((ovR cs st l).1.setIfInBounds x _).size = _
  rw [Array.size_setIfInBounds, ih]
def ptrsO (b : Nat) (os : List Nat) : Array Value := (os.map fun o => Value.pointer (some ⟨b, o, none⟩)).toArray
theorem Tkt.take_snocG {α : Type} {l : List α} {k : Nat} {y : α} (h : l[k]? = some y) : l.take (k + 1) = l.take k ++ [y] := by
  obtain ⟨hk, he⟩ := List.getElem?_eq_some_iff.1 h
  rw [List.take_succ_eq_append_getElem hk, he]

theorem made_enc {α : Type} {enc : α → List Value} {n : Nat} (hn : ∀ x, (enc x).length = n) (hp : 0 < n) (z : α) (m : Nat) : (madeCells (enc z).toArray (m * n)).toList = encL enc (List.replicate m z) := by
  apply List.ext_getElem?
  intro i
  by_cases hi : i < m * n
  · have hd : i / n < m := (Nat.div_lt_iff_lt_mul hp).2 hi
    have e1 : i = i / n * n + i % n := by have := Nat.div_add_mod i n; rw [Nat.mul_comm] at this; omega
    have e2 : (List.replicate m z)[i / n]? = some z := by rw [List.getElem?_replicate, if_pos hd]
    have hm : i % n < n := Nat.mod_lt _ hp
    have e3 := encL_at hn e2 hm
    rw [← e1] at e3
    rw [e3]
    unfold madeCells
    rw [Array.toList_map, List.getElem?_map]
    have e4 : (Array.range (m * n)).toList[i]? = some i := by simp [hi]
    rw [e4]
    have hz : (enc z).toArray.size = n := by simp [hn]
    simp only [Option.map_some, hz]
    rw [getElem!_pos _ _ (by rw [hz]; exact hm)]
    simp [hn, hm]
  · rw [List.getElem?_eq_none (by rw [Array.length_toList, size_madeCells]; omega), List.getElem?_eq_none (by rw [encL_length hn, List.length_replicate]; omega)]

def zCp (m : Nat) : Array Value := (encL Cpn.cells (List.replicate m ⟨0, 0, 0, 0, 0, 0⟩)).toArray
theorem mk_Cp (m : Nat) (hm : m ≤ 100000) (W : World) : (Instr.makeSlice 22 (.int .i64 (m : Int)) (.int .i64 (m : Int))).run Try.prog W = .ok (.slice (some ⟨W.heap.size, 0, none⟩) m m) (W.alloc (.cells (zCp m) 37 (0, 0))) := by
  have h1 : ((Try.prog.info? 37).map fun i => (i.size, i.bytes)) = some (6, 48) := by kernel_rfl
  have h2 : ((Try.prog.info? 37).bind fun i => i.zero) = some (.agg #[.int .i64 0, .int .i64 0, .int .i64 0, .int .i64 0, .int .i64 0, .int .u64 0]) := by kernel_rfl
  cases hi : Try.prog.info? 37 with
  | none => rw [hi] at h1; cases h1
  | some i =>
    rw [hi] at h1 h2
    have hz : i.zero = some (.agg #[.int .i64 0, .int .i64 0, .int .i64 0, .int .i64 0, .int .i64 0, .int .u64 0]) := h2
    have h1' : i.size = 6 ∧ i.bytes = 48 := by simpa using h1
    have := run_makeSlice (w := W) (P := Try.prog) 22 37 i (.agg #[.int .i64 0, .int .i64 0, .int .i64 0, .int .i64 0, .int .i64 0, .int .u64 0]) Try.underlying22 hi hz .i64 .i64 (m : Int) (m : Int) (by omega) (Int.le_refl _) (by rw [h1'.1]; simp; omega) (by rw [h1'.2]; omega) (by omega)
    rw [h1'.1] at this
    have hc : madeCells (Value.agg #[.int .i64 0, .int .i64 0, .int .i64 0, .int .i64 0, .int .i64 0, .int .u64 0]).cells (m * 6) = zCp m := by
      apply Array.toList_inj.1
      exact made_enc Cpn.cells_length (by decide) ⟨0, 0, 0, 0, 0, 0⟩ m
    simpa [hc] using this

def zTx (m : Nat) : Array Value := (encL Txx.cells (List.replicate m ⟨0, 0⟩)).toArray
theorem mk_Tx (m : Nat) (hm : m ≤ 100000) (W : World) : (Instr.makeSlice 23 (.int .i64 (m : Int)) (.int .i64 (m : Int))).run Try.prog W = .ok (.slice (some ⟨W.heap.size, 0, none⟩) m m) (W.alloc (.cells (zTx m) 56 (0, 0))) := by
  have h1 : ((Try.prog.info? 56).map fun i => (i.size, i.bytes)) = some (2, 16) := by kernel_rfl
  have h2 : ((Try.prog.info? 56).bind fun i => i.zero) = some (.agg #[.int .i64 0, .int .i64 0]) := by kernel_rfl
  cases hi : Try.prog.info? 56 with
  | none => rw [hi] at h1; cases h1
  | some i =>
    rw [hi] at h1 h2
    have hz : i.zero = some (.agg #[.int .i64 0, .int .i64 0]) := h2
    have h1' : i.size = 2 ∧ i.bytes = 16 := by simpa using h1
    have := run_makeSlice (w := W) (P := Try.prog) 23 56 i (.agg #[.int .i64 0, .int .i64 0]) Try.underlying23 hi hz .i64 .i64 (m : Int) (m : Int) (by omega) (Int.le_refl _) (by rw [h1'.1]; simp; omega) (by rw [h1'.2]; omega) (by omega)
    rw [h1'.1] at this
    have hc : madeCells (Value.agg #[.int .i64 0, .int .i64 0]).cells (m * 2) = zTx m := by
      apply Array.toList_inj.1
      exact made_enc Txx.cells_length (by decide) ⟨0, 0⟩ m
    simpa [hc] using this

def zEv (m : Nat) : Array Value := (encL Evt.cells (List.replicate m ⟨0, 0, 0, 0⟩)).toArray
theorem mk_Ev (m : Nat) (hm : m ≤ 100000) (W : World) : (Instr.makeSlice 43 (.int .i64 (m : Int)) (.int .i64 (m : Int))).run Try.prog W = .ok (.slice (some ⟨W.heap.size, 0, none⟩) m m) (W.alloc (.cells (zEv m) 96 (0, 0))) := by
  have h1 : ((Try.prog.info? 96).map fun i => (i.size, i.bytes)) = some (4, 32) := by kernel_rfl
  have h2 : ((Try.prog.info? 96).bind fun i => i.zero) = some (.agg #[.int .i64 0, .int .i64 0, .int .i64 0, .int .i64 0]) := by kernel_rfl
  cases hi : Try.prog.info? 96 with
  | none => rw [hi] at h1; cases h1
  | some i =>
    rw [hi] at h1 h2
    have hz : i.zero = some (.agg #[.int .i64 0, .int .i64 0, .int .i64 0, .int .i64 0]) := h2
    have h1' : i.size = 4 ∧ i.bytes = 32 := by simpa using h1
    have := run_makeSlice (w := W) (P := Try.prog) 43 96 i (.agg #[.int .i64 0, .int .i64 0, .int .i64 0, .int .i64 0]) Try.underlying43 hi hz .i64 .i64 (m : Int) (m : Int) (by omega) (Int.le_refl _) (by rw [h1'.1]; simp; omega) (by rw [h1'.2]; omega) (by omega)
    rw [h1'.1] at this
    have hc : madeCells (Value.agg #[.int .i64 0, .int .i64 0, .int .i64 0, .int .i64 0]).cells (m * 4) = zEv m := by
      apply Array.toList_inj.1
      exact made_enc Evt.cells_length (by decide) ⟨0, 0, 0, 0⟩ m
    simpa [hc] using this

end Go.Proofs.Ytadabjkhiaidcaa
end
