/- Contracts: what becomes of a letter (fate). -/
import Derived.Test.YtihilifpadpkbaaNtC
import Derived.Test.YtihilifpadpkbaaNtP
set_option linter.unusedVariables false
set_option linter.unusedSimpArgs false
namespace Go.Proofs.Ytihilifpadpkbaa
open Go.RowKit

theorem bdrewN {B : Nat} {a w : World} (h : Below B a w) (n : Nat) : Below B a (w.drewN n) := h.trans ⟨rfl, rfl, rfl, Nat.le_refl _, fun _ _ => rfl⟩

set_option maxRecDepth 4000 in
set_option maxHeartbeats 1000000 in
theorem nfate3c_any (w : World) (base g : Nat) (k : Int) (calm : Bool) (v : Value) (all : List Hd) (h : IsN w base g k calm v all) (x : Hd) (pk : Int) (h0 : 0 ≤ pk) (h7 : pk ≤ 7) (h3 : pk % 4 = 3) (hcm : calm = true) :
    Calls Try.prog 31 #[.pointer (some ⟨g, 0, none⟩), .agg #[.int .i64 x.l.f, .int .i64 x.l.t, .int .u64 x.l.n, .int .u64 x.l.a, .int .i64 x.l.k, .int .u64 x.l.tk, .int .i64 x.l.c, .int .i64 x.l.d, .int .i64 x.l.co, .int .i64 x.l.fl, .int .i64 x.l.dy, .int .i64 x.l.va, .int .i64 x.l.st, .int .i64 x.l.ho, .int .u64 x.l.nx, .int .i64 x.age], .int .i64 pk] w fun e w' => e = .returned (.int .i64 (0)) ∧ Below w.heap.size w w' := by
  have hg := block_lt h.2.1
  have hrow := row_allocS h.2.1 (.cells #[.int .i64 x.l.f, .int .i64 x.l.t, .int .u64 x.l.n, .int .u64 x.l.a, .int .i64 x.l.k, .int .u64 x.l.tk, .int .i64 x.l.c, .int .i64 x.l.d, .int .i64 x.l.co, .int .i64 x.l.fl, .int .i64 x.l.dy, .int .i64 x.l.va, .int .i64 x.l.st, .int .i64 x.l.ho, .int .u64 x.l.nx, .int .i64 x.age] 69 (0, 0))
  have hcg := fun j => cell_of_row _ g j _ _ _ hrow
  have hcx := fun j => cell_of_row _ w.heap.size j _ _ _ (new_rowW w (.cells #[.int .i64 x.l.f, .int .i64 x.l.t, .int .u64 x.l.n, .int .u64 x.l.a, .int .i64 x.l.k, .int .u64 x.l.tk, .int .i64 x.l.c, .int .i64 x.l.d, .int .i64 x.l.co, .int .i64 x.l.fl, .int .i64 x.l.dy, .int .i64 x.l.va, .int .i64 x.l.st, .int .i64 x.l.ho, .int .u64 x.l.nx, .int .i64 x.age] 69 (0, 0)) _ rfl)
  clear h hrow
  subst hcm
  go_enter Try.func31, Try.ntmps31
  go_wp2_with fail
  go_quiet (fail)
  go_wp2
  go_ret
  exact ⟨rfl, bdrewN ((Below.refl _ _).alloc (Nat.le_refl _) _) _⟩

set_option maxRecDepth 4000 in
set_option maxHeartbeats 1000000 in
theorem nfate3n_any (w : World) (base g : Nat) (k : Int) (calm : Bool) (v : Value) (all : List Hd) (h : IsN w base g k calm v all) (x : Hd) (pk : Int) (h0 : 0 ≤ pk) (h7 : pk ≤ 7) (h3 : pk % 4 = 3) (hcm : calm = false) :
    Calls Try.prog 31 #[.pointer (some ⟨g, 0, none⟩), .agg #[.int .i64 x.l.f, .int .i64 x.l.t, .int .u64 x.l.n, .int .u64 x.l.a, .int .i64 x.l.k, .int .u64 x.l.tk, .int .i64 x.l.c, .int .i64 x.l.d, .int .i64 x.l.co, .int .i64 x.l.fl, .int .i64 x.l.dy, .int .i64 x.l.va, .int .i64 x.l.st, .int .i64 x.l.ho, .int .u64 x.l.nx, .int .i64 x.age], .int .i64 pk] w fun e w' => e = .returned (.int .i64 (pk % 4)) ∧ Below w.heap.size w w' := by
  have hg := block_lt h.2.1
  have hrow := row_allocS h.2.1 (.cells #[.int .i64 x.l.f, .int .i64 x.l.t, .int .u64 x.l.n, .int .u64 x.l.a, .int .i64 x.l.k, .int .u64 x.l.tk, .int .i64 x.l.c, .int .i64 x.l.d, .int .i64 x.l.co, .int .i64 x.l.fl, .int .i64 x.l.dy, .int .i64 x.l.va, .int .i64 x.l.st, .int .i64 x.l.ho, .int .u64 x.l.nx, .int .i64 x.age] 69 (0, 0))
  have hcg := fun j => cell_of_row _ g j _ _ _ hrow
  have hcx := fun j => cell_of_row _ w.heap.size j _ _ _ (new_rowW w (.cells #[.int .i64 x.l.f, .int .i64 x.l.t, .int .u64 x.l.n, .int .u64 x.l.a, .int .i64 x.l.k, .int .u64 x.l.tk, .int .i64 x.l.c, .int .i64 x.l.d, .int .i64 x.l.co, .int .i64 x.l.fl, .int .i64 x.l.dy, .int .i64 x.l.va, .int .i64 x.l.st, .int .i64 x.l.ho, .int .u64 x.l.nx, .int .i64 x.age] 69 (0, 0)) _ rfl)
  clear h hrow
  subst hcm
  go_enter Try.func31, Try.ntmps31
  go_wp2_with fail
  go_quiet (fail)
  go_wp2
  go_ret
  exact ⟨ret_int (by first | rfl | omega | simp [h3]), bdrewN ((Below.refl _ _).alloc (Nat.le_refl _) _) _⟩

set_option maxRecDepth 4000 in
set_option maxHeartbeats 1000000 in
theorem nfateOld_any (w : World) (base g : Nat) (k : Int) (calm : Bool) (v : Value) (all : List Hd) (h : IsN w base g k calm v all) (x : Hd) (pk : Int) (h0 : 0 ≤ pk) (h7 : pk ≤ 7) (h3 : ¬ pk % 4 = 3) (hage : k ≤ x.age) :
    Calls Try.prog 31 #[.pointer (some ⟨g, 0, none⟩), .agg #[.int .i64 x.l.f, .int .i64 x.l.t, .int .u64 x.l.n, .int .u64 x.l.a, .int .i64 x.l.k, .int .u64 x.l.tk, .int .i64 x.l.c, .int .i64 x.l.d, .int .i64 x.l.co, .int .i64 x.l.fl, .int .i64 x.l.dy, .int .i64 x.l.va, .int .i64 x.l.st, .int .i64 x.l.ho, .int .u64 x.l.nx, .int .i64 x.age], .int .i64 pk] w fun e w' => e = .returned (.int .i64 (0)) ∧ Below w.heap.size w w' := by
  have hg := block_lt h.2.1
  have hrow := row_allocS h.2.1 (.cells #[.int .i64 x.l.f, .int .i64 x.l.t, .int .u64 x.l.n, .int .u64 x.l.a, .int .i64 x.l.k, .int .u64 x.l.tk, .int .i64 x.l.c, .int .i64 x.l.d, .int .i64 x.l.co, .int .i64 x.l.fl, .int .i64 x.l.dy, .int .i64 x.l.va, .int .i64 x.l.st, .int .i64 x.l.ho, .int .u64 x.l.nx, .int .i64 x.age] 69 (0, 0))
  have hcg := fun j => cell_of_row _ g j _ _ _ hrow
  have hcx := fun j => cell_of_row _ w.heap.size j _ _ _ (new_rowW w (.cells #[.int .i64 x.l.f, .int .i64 x.l.t, .int .u64 x.l.n, .int .u64 x.l.a, .int .i64 x.l.k, .int .u64 x.l.tk, .int .i64 x.l.c, .int .i64 x.l.d, .int .i64 x.l.co, .int .i64 x.l.fl, .int .i64 x.l.dy, .int .i64 x.l.va, .int .i64 x.l.st, .int .i64 x.l.ho, .int .u64 x.l.nx, .int .i64 x.age] 69 (0, 0)) _ rfl)
  clear h hrow
  
  go_enter Try.func31, Try.ntmps31
  go_wp2_with fail
  go_quiet (fail)
  go_wp2
  go_ret
  exact ⟨rfl, bdrewN ((Below.refl _ _).alloc (Nat.le_refl _) _) _⟩

set_option maxRecDepth 4000 in
set_option maxHeartbeats 1000000 in
theorem nfateNew_any (w : World) (base g : Nat) (k : Int) (calm : Bool) (v : Value) (all : List Hd) (h : IsN w base g k calm v all) (x : Hd) (pk : Int) (h0 : 0 ≤ pk) (h7 : pk ≤ 7) (h3 : ¬ pk % 4 = 3) (hage : ¬ k ≤ x.age) :
    Calls Try.prog 31 #[.pointer (some ⟨g, 0, none⟩), .agg #[.int .i64 x.l.f, .int .i64 x.l.t, .int .u64 x.l.n, .int .u64 x.l.a, .int .i64 x.l.k, .int .u64 x.l.tk, .int .i64 x.l.c, .int .i64 x.l.d, .int .i64 x.l.co, .int .i64 x.l.fl, .int .i64 x.l.dy, .int .i64 x.l.va, .int .i64 x.l.st, .int .i64 x.l.ho, .int .u64 x.l.nx, .int .i64 x.age], .int .i64 pk] w fun e w' => e = .returned (.int .i64 (pk % 4)) ∧ Below w.heap.size w w' := by
  have hg := block_lt h.2.1
  have hrow := row_allocS h.2.1 (.cells #[.int .i64 x.l.f, .int .i64 x.l.t, .int .u64 x.l.n, .int .u64 x.l.a, .int .i64 x.l.k, .int .u64 x.l.tk, .int .i64 x.l.c, .int .i64 x.l.d, .int .i64 x.l.co, .int .i64 x.l.fl, .int .i64 x.l.dy, .int .i64 x.l.va, .int .i64 x.l.st, .int .i64 x.l.ho, .int .u64 x.l.nx, .int .i64 x.age] 69 (0, 0))
  have hcg := fun j => cell_of_row _ g j _ _ _ hrow
  have hcx := fun j => cell_of_row _ w.heap.size j _ _ _ (new_rowW w (.cells #[.int .i64 x.l.f, .int .i64 x.l.t, .int .u64 x.l.n, .int .u64 x.l.a, .int .i64 x.l.k, .int .u64 x.l.tk, .int .i64 x.l.c, .int .i64 x.l.d, .int .i64 x.l.co, .int .i64 x.l.fl, .int .i64 x.l.dy, .int .i64 x.l.va, .int .i64 x.l.st, .int .i64 x.l.ho, .int .u64 x.l.nx, .int .i64 x.age] 69 (0, 0)) _ rfl)
  clear h hrow
  have hd : decide (k ≤ x.age) = false := by simpa using hage
  go_enter Try.func31, Try.ntmps31
  go_wp2_with fail
  go_quiet (fail)
  go_wp2
  go_ret
  exact ⟨rfl, bdrewN ((Below.refl _ _).alloc (Nat.le_refl _) _) _⟩

theorem nfate_any (w : World) (base g : Nat) (k : Int) (calm : Bool) (v : Value) (all : List Hd) (h : IsN w base g k calm v all) (x : Hd) (pk : Int) (h0 : 0 ≤ pk) (h7 : pk ≤ 7) :
    Calls Try.prog 31 #[.pointer (some ⟨g, 0, none⟩), .agg #[.int .i64 x.l.f, .int .i64 x.l.t, .int .u64 x.l.n, .int .u64 x.l.a, .int .i64 x.l.k, .int .u64 x.l.tk, .int .i64 x.l.c, .int .i64 x.l.d, .int .i64 x.l.co, .int .i64 x.l.fl, .int .i64 x.l.dy, .int .i64 x.l.va, .int .i64 x.l.st, .int .i64 x.l.ho, .int .u64 x.l.nx, .int .i64 x.age], .int .i64 pk] w fun e w' => e = .returned (.int .i64 (Nt.fate k calm x.age pk)) ∧ Below w.heap.size w w' := by
  unfold Nt.fate
  by_cases h3 : pk % 4 = 3
  · cases hc : calm
    · rw [if_neg (by simp [h3])]; subst hc; exact nfate3n_any w base g k false v all h x pk h0 h7 h3 rfl
    · rw [if_pos (by simp [h3])]; subst hc; exact nfate3c_any w base g k true v all h x pk h0 h7 h3 rfl
  · by_cases ha : k ≤ x.age
    · rw [if_pos (.inr ⟨h3, ha⟩)]; exact nfateOld_any w base g k calm v all h x pk h0 h7 h3 ha
    · rw [if_neg (by simp [h3, ha])]; exact nfateNew_any w base g k calm v all h x pk h0 h7 h3 ha
end Go.Proofs.Ytihilifpadpkbaa
