/- Nets in memory: letters, held ones; the net's small methods. -/
import Derived.Test.YtihilifpadpkbaaLtC
import Derived.Test.YtihilifpadpkbaaShape
set_option linter.unusedVariables false
set_option linter.unusedSimpArgs false
namespace Go.Proofs.Ytihilifpadpkbaa
open Go.RowKit

structure Hd where
  l : Lt
  age : Int
def Hd.cells (x : Hd) : List Value := [.int .i64 x.l.f, .int .i64 x.l.t, .int .u64 x.l.n, .int .u64 x.l.a, .int .i64 x.l.k, .int .u64 x.l.tk, .int .i64 x.l.c, .int .i64 x.l.d, .int .i64 x.l.co, .int .i64 x.l.fl, .int .i64 x.l.dy, .int .i64 x.l.va, .int .i64 x.l.st, .int .i64 x.l.ho, .int .u64 x.l.nx, .int .i64 x.age]
theorem Hd.cells_eq (x : Hd) : x.cells = x.l.cells ++ [.int .i64 x.age] := rfl
theorem Lt.cells_length (c : Lt) : c.cells.length = 15 := rfl
theorem Hd.cells_length (c : Hd) : c.cells.length = 16 := rfl
theorem Lt.cells_one (c : Lt) : ∀ u ∈ c.cells, u.oneCell' = true := by
  intro u hu; simp only [Lt.cells, List.mem_cons, List.not_mem_nil, or_false] at hu; rcases hu with rfl | rfl | rfl | rfl | rfl | rfl | rfl | rfl | rfl | rfl | rfl | rfl | rfl | rfl | rfl <;> rfl
theorem Hd.cells_one (c : Hd) : ∀ u ∈ c.cells, u.oneCell' = true := by
  intro u hu
  rw [Hd.cells_eq] at hu
  rcases List.mem_append.1 hu with h | h
  · exact c.l.cells_one u h
  · rcases List.mem_singleton.1 h with rfl; rfl
theorem elemLt : Elem Try.prog Lt.cells 15 120 22 35 := Elem.of Try.underlying22 (by kernel_rfl) (by decide) (by decide) Lt.cells_length Lt.cells_one
theorem elemHd : Elem Try.prog Hd.cells 16 128 62 69 := Elem.of Try.underlying62 (by kernel_rfl) (by decide) (by decide) Hd.cells_length Hd.cells_one
def intC (z : Int) : List Value := [.int .i64 z]
theorem elemI : Elem Try.prog intC 1 8 23 3 := Elem.of Try.underlying23 (by kernel_rfl) (by decide) (by decide) (fun _ => rfl) (fun x u hu => by rcases List.mem_singleton.1 hu with rfl; rfl)

theorem lt_eta (x : Lt) : x.cells.toArray = #[.int .i64 x.f, .int .i64 x.t, .int .u64 x.n, .int .u64 x.a, .int .i64 x.k, .int .u64 x.tk, .int .i64 x.c, .int .i64 x.d, .int .i64 x.co, .int .i64 x.fl, .int .i64 x.dy, .int .i64 x.va, .int .i64 x.st, .int .i64 x.ho, .int .u64 x.nx] := rfl
theorem hd_eta (x : Hd) : x.cells.toArray = #[.int .i64 x.l.f, .int .i64 x.l.t, .int .u64 x.l.n, .int .u64 x.l.a, .int .i64 x.l.k, .int .u64 x.l.tk, .int .i64 x.l.c, .int .i64 x.l.d, .int .i64 x.l.co, .int .i64 x.l.fl, .int .i64 x.l.dy, .int .i64 x.l.va, .int .i64 x.l.st, .int .i64 x.l.ho, .int .u64 x.l.nx, .int .i64 x.age] := rfl

/-- which letters fit the model -/
def Lt.fit (x : Lt) : Prop := U64 x.n ∧ U64 x.a ∧ U64 x.tk ∧ I64 x.va
theorem lmayL_any (x : Lt) (h : x.fit) (w : World) : Calls Try.prog 30 #[.agg #[.int .i64 x.f, .int .i64 x.t, .int .u64 x.n, .int .u64 x.a, .int .i64 x.k, .int .u64 x.tk, .int .i64 x.c, .int .i64 x.d, .int .i64 x.co, .int .i64 x.fl, .int .i64 x.dy, .int .i64 x.va, .int .i64 x.st, .int .i64 x.ho, .int .u64 x.nx]] w fun e w' => e = .returned (.bool x.may) ∧ Below w.heap.size w w' :=
  lmay_any x.f x.t x.n x.a x.k x.tk x.c x.d x.co x.fl x.dy x.va x.st x.ho x.nx h.2.2.1 h.2.2.2 h.1 h.2.1 w
theorem rLmayL_any (x : Lt) (h : x.fit) (w : World) : Calls Try.prog 15 #[.agg #[.int .i64 x.f, .int .i64 x.t, .int .u64 x.n, .int .u64 x.a, .int .i64 x.k, .int .u64 x.tk, .int .i64 x.c, .int .i64 x.d, .int .i64 x.co, .int .i64 x.fl, .int .i64 x.dy, .int .i64 x.va, .int .i64 x.st, .int .i64 x.ho, .int .u64 x.nx]] w fun e w' => e = .returned (.bool x.may) ∧ Below w.heap.size w w' :=
  rLmay_any x.f x.t x.n x.a x.k x.tk x.c x.d x.co x.fl x.dy x.va x.st x.ho x.nx h.2.2.1 h.1 h.2.1 w

/-- a net at block g that holds letters in blocks from base on -/
def IsN (w : World) (base g : Nat) (k : Int) (calm : Bool) (v : Value) (all : List Hd) : Prop :=
  base ≤ g ∧ w.heap[g]? = some (.cells #[.int .i64 k, .bool calm, v] 64 (0, 0)) ∧ w.ownsRow base 69 16 v all.length (encL Hd.cells all) ∧ v.ownBlock ≠ some g
/-- what a net's methods may write -/
def Ft (g : Nat) (v : Value) : Nat → Prop := fun i => i = g ∨ v.ownBlock = some i
theorem recs_turn {α : Type} {enc : α → List Value} {n base e m : Nat} {w w' : World} {v : Value} {l : List α} {S : Nat → Prop} (h : w.ownsRow base e n v m (encL enc l)) (ht : Turn S w w') (hs : ∀ b, v.ownBlock = some b → ¬ S b) : w'.ownsRow base e n v m (encL enc l) := by
  obtain ⟨hl, hor⟩ := h
  refine ⟨hl, ?_⟩
  rcases hor with h | ⟨g, cap, cur, rfl, hg, hh, hx⟩
  · exact .inl h
  · refine .inr ⟨g, cap, cur, rfl, hg, ?_, hx⟩
    rw [ht.block g (block_lt hh) (hs g rfl)]
    exact hh
theorem LS.turn {α : Type} {enc : α → List Value} {n : Nat} {w w' : World} {v : Value} {l : List α} {S : Nat → Prop} (h : LS enc n w v l) (ht : Turn S w w') (hs : ∀ b, v.ownBlock = some b → ¬ S b) : LS enc n w' v l :=
  h.keep ht.size fun b hb hlt => ht.block b hlt (hs b hb)
theorem IsN.turn {w w' : World} {base g : Nat} {k : Int} {calm : Bool} {v : Value} {all : List Hd} {S : Nat → Prop} (h : IsN w base g k calm v all) (ht : Turn S w w') (hg : ¬ S g) (hs : ∀ b, v.ownBlock = some b → ¬ S b) : IsN w' base g k calm v all :=
  ⟨h.1, (ht.block g (block_lt h.2.1) hg).trans h.2.1, recs_turn h.2.2.1 ht hs, h.2.2.2⟩
theorem IsN.below {w w' : World} {base g : Nat} {k : Int} {calm : Bool} {v : Value} {all : List Hd} (h : IsN w base g k calm v all) (hb : Below w.heap.size w w') : IsN w' base g k calm v all :=
  h.turn (S := fun _ => False) (.of_below hb) id (fun _ _ => id)

section
variable (w : World) (base g : Nat) (k : Int) (calm : Bool) (v : Value) (all : List Hd)
theorem nthere_any (h : IsN w base g k calm v all) (hk : 0 < k) : Calls Try.prog 27 #[.pointer (some ⟨g, 0, none⟩)] w fun e w' => e = .returned (.bool true) ∧ w = w' := by
  have c0 : w.cell? ⟨g, 0, none⟩ = some (.int .i64 k) := cell_of_row w g 0 _ _ _ h.2.1
  clear h
  go_enter Try.func27, Try.ntmps27
  go_wp2
  go_ret
  exact ⟨rfl, rfl⟩
theorem nlen_any (h : IsN w base g k calm v all) (hk : 0 < k) : Calls Try.prog 14 #[.pointer (some ⟨g, 0, none⟩)] w fun e w' => e = .returned (.int .i64 (all.length : Int)) ∧ w = w' := by
  have HT := Lib.hid (nthere_any w base g k calm v all h hk)
  have c2 : w.cell? ⟨g, 2, none⟩ = some v := cell_of_row w g 2 _ _ _ h.2.1
  have hown := h.2.2.1
  clear h
  generalize all.length = n at *
  rcases hown.2 with ⟨rfl, h0⟩ | ⟨gb, cap, cur, rfl, _⟩
  · subst h0
    clear hown
    go_enter Try.func14, Try.ntmps14
    go_wp2_with (go_at_call 27; refine HT.out.mono ?_; rintro e w' ⟨rfl, rfl⟩)
    go_ret
    exact ⟨rfl, rfl⟩
  · clear hown
    go_enter Try.func14, Try.ntmps14
    go_wp2_with (go_at_call 27; refine HT.out.mono ?_; rintro e w' ⟨rfl, rfl⟩)
    go_ret
    exact ⟨rfl, rfl⟩
theorem nhold_any (h : IsN w base g k calm v all) (hk : 0 < k) : Calls Try.prog 25 #[.pointer (some ⟨g, 0, none⟩)] w fun e w' => e = .returned (.int .i64 k) ∧ w = w' := by
  have HT := Lib.hid (nthere_any w base g k calm v all h hk)
  have c0 : w.cell? ⟨g, 0, none⟩ = some (.int .i64 k) := cell_of_row w g 0 _ _ _ h.2.1
  clear h
  go_enter Try.func25, Try.ntmps25
  go_wp2_with (go_at_call 27; refine HT.out.mono ?_; rintro e w' ⟨rfl, rfl⟩)
  go_ret
  exact ⟨rfl, rfl⟩
theorem niscalm_any (h : IsN w base g k calm v all) (hk : 0 < k) : Calls Try.prog 24 #[.pointer (some ⟨g, 0, none⟩)] w fun e w' => e = .returned (.bool calm) ∧ w = w' := by
  have HT := Lib.hid (nthere_any w base g k calm v all h hk)
  have c1 : w.cell? ⟨g, 1, none⟩ = some (.bool calm) := cell_of_row w g 1 _ _ _ h.2.1
  clear h
  go_enter Try.func24, Try.ntmps24
  go_wp2_with (go_at_call 27; refine HT.out.mono ?_; rintro e w' ⟨rfl, rfl⟩)
  go_ret
  exact ⟨rfl, rfl⟩
theorem ncalm_any (h : IsN w base g k calm v all) (hk : 0 < k) (is : Bool) : Calls Try.prog 12 #[.pointer (some ⟨g, 0, none⟩), .bool is] w fun e w' => e = .returned (.tuple #[]) ∧ IsN w' base g k is v all ∧ Turn (fun i => i = g) w w' := by
  have HT := Lib.hid (nthere_any w base g k calm v all h hk)
  have hf := fun j => frozen_of_row w g j _ _ h.2.1
  have c1 : w.cell? ⟨g, 1, none⟩ = some (.bool calm) := cell_of_row w g 1 _ _ _ h.2.1
  have H := Lib.hid h
  clear h
  go_enter Try.func12, Try.ntmps12
  go_wp2_with (go_at_call 27; refine HT.out.mono ?_; rintro e w' ⟨rfl, rfl⟩)
  go_end0
  have ht : Turn (fun i => i = g) w (w.setCell ⟨g, 1, none⟩ (.bool is)) := (Turn.refl (fun i => i = g) w).setCell rfl _ _
  exact ⟨rfl, ⟨H.out.1, heap_setCell_same _ g 1 _ _ _ H.out.2.1, recs_turn H.out.2.2.1 ht (fun b hb e => H.out.2.2.2 (by rw [hb]; exact congrArg some e)), H.out.2.2.2⟩, ht⟩
end
theorem nnew_any (k : Int) (h1 : 1 ≤ k) (h2 : k ≤ 64) (w : World) : Calls Try.prog 10 #[.int .i64 k] w fun e w' => e = .returned (.tuple #[.pointer (some ⟨w.heap.size, 0, none⟩), .int .i64 0]) ∧ IsN w' w.heap.size w.heap.size k false (.slice none 0 0) [] ∧ Below w.heap.size w w' := by
  go_enter Try.func10, Try.ntmps10
  go_wp2
  go_ret2
  exact ⟨rfl, ⟨Nat.le_refl _, new_rowW w _ _ rfl, World.ownsRow_nil _ _ _ _, by simp [Value.ownBlock]⟩, (Below.refl _ _).alloc (Nat.le_refl _) _⟩
theorem nnew_bad (k : Int) (h : k < 1 ∨ 64 < k) (w : World) : Calls Try.prog 10 #[.int .i64 k] w fun e w' => e = .returned (.tuple #[.pointer none, .int .i64 2]) ∧ w = w' := by
  rcases h with h | h
  · go_enter Try.func10, Try.ntmps10
    go_wp2
    go_ret2
    exact ⟨rfl, rfl⟩
  · have h' : ¬ k < 1 := by omega
    go_enter Try.func10, Try.ntmps10
    go_wp2
    go_ret2
    exact ⟨rfl, rfl⟩
end Go.Proofs.Ytihilifpadpkbaa
