/- What NetComes leans on: a fresh net is sent letters; rows of counts. -/
import Derived.Test.YtihilifpadpkbaaNtX
import Derived.Test.YtihilifpadpkbaaNtK
set_option linter.unusedVariables false
set_option linter.unusedSimpArgs false
namespace Go.Proofs.Ytihilifpadpkbaa
open Go.RowKit Nt

theorem nsend_new (l : List Lt) (hfit : ∀ x ∈ l, x.fit) (p : Option Addr) (n cap : Nat) (w : World) (g : Nat) (k : Int) (h : IsN w g g k false (.slice none 0 0) []) (hk : 0 < k) (hs : LS Lt.cells 15 w (.slice p n cap) l) (hok : ∀ x ∈ l, x.may = true) (hl : l.length ≤ 20) (hap : l ≠ [] → ∀ b, (Value.slice p n cap).ownBlock = some b → b < g) :
    Calls Try.prog 11 #[.pointer (some ⟨g, 0, none⟩), .slice p n cap] w fun e w' => e = .returned (.int .i64 0) ∧ ∃ v', IsN w' g g k false v' (l.map h0) ∧ Turn (· = g) w w' := by
  by_cases hne : l = []
  · subst hne
    refine (nsend_empty w g g k false _ [] p n cap h hk hs (by simp)).mono ?_
    rintro e w' ⟨rfl, hb⟩
    exact ⟨rfl, _, h.below hb, .of_below hb⟩
  · refine (nsend_ok l hfit p n cap w g g k false _ [] h hk hs hok (by simp; omega) (Nat.le_of_lt (block_lt h.2.1)) (fun b hb hf => by
      have h1 := hap hne b hb
      rcases hf with h2 | h2
      · omega
      · cases h2)).mono ?_
    rintro e w' ⟨rfl, v', hn, ht, -⟩
    rw [List.nil_append] at hn
    exact ⟨rfl, v', hn, ht.mono (fun i _ h => by rcases h with h | h; exact h; cases h)⟩
/-- whole numbers as cells -/
def rowI (l : List Int) : Array Value := (l.map (Value.int .i64)).toArray
theorem rowI_get {l : List Int} {i : Nat} {z : Int} (h : l[i]? = some z) : (rowI l)[i]? = some (.int .i64 z) := by
  unfold rowI; rw [List.getElem?_toArray, List.getElem?_map, h]; rfl
theorem rowI_set (l : List Int) (i : Nat) (z : Int) : (rowI l).setIfInBounds i (.int .i64 z) = rowI (l.set i z) := by
  unfold rowI
  rw [List.setIfInBounds_toArray, List.map_set]
theorem mk_ints : ∀ (m : Nat), m ≤ 100000 → ∀ W : World, (Instr.makeSlice 23 (.int .i64 (m : Int)) (.int .i64 (m : Int))).run Try.prog W = .ok (.slice (some ⟨W.heap.size, 0, none⟩) m m) (W.alloc (.cells (rowI (List.replicate m 0)) 3 (0, 0))) := by
  have h1 : ((Try.prog.info? 3).map fun i => (i.size, i.bytes)) = some (1, 8) := by kernel_rfl
  have h2 : ((Try.prog.info? 3).bind fun i => i.zero) = some (.int .i64 0) := by kernel_rfl
  cases hi : Try.prog.info? 3 with
  | none => rw [hi] at h1; cases h1
  | some i =>
    rw [hi] at h1 h2
    have hz : i.zero = some (.int .i64 0) := h2
    have h1' : i.size = 1 ∧ i.bytes = 8 := by simpa using h1
    intro m hm W
    have := run_makeSlice (w := W) (P := Try.prog) 23 3 i (.int .i64 0) Try.underlying23 hi hz .i64 .i64 (m : Int) (m : Int) (by omega) (Int.le_refl _) (by rw [h1'.1]; simp; omega) (by rw [h1'.2]; omega) (by omega)
    rw [h1'.1] at this
    have hc : madeCells (Value.int IntKind.i64 0).cells (m * 1) = rowI (List.replicate m 0) := by
      apply Array.toList_inj.1
      rw [show (Value.int IntKind.i64 0).cells = #[Value.int IntKind.i64 0] from rfl, toList_madeCells_one, Nat.mul_one]
      simp [rowI]
    have hc' : madeCells (Value.int IntKind.i64 0).cells m = rowI (List.replicate m 0) := by rw [← hc, Nat.mul_one]
    simpa [hc, hc'] using this
end Go.Proofs.Ytihilifpadpkbaa
