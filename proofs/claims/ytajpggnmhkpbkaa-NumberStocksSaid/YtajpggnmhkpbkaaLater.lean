/- A region that draws its order, whose operations read old memory and whose callees only make memory: one walk of the lexical order serves every order, in the class of worlds that agree with the first one below its size. -/
import Derived.Deep.QuietTactic
import Derived.BigQuiet
import Derived.Below
namespace Go.Proofs.Ytajpggnmhkpbkaa
open Go.RowKit

structure Later (W : World) where
  val : World
  prop : Below W.heap.size W val

instance Later.nonempty (W : World) : Nonempty (Later W) := ⟨⟨W, Below.refl _ _⟩⟩

theorem Later.of {W w : World} (h : Below W.heap.size W w) : ∃ u : Later W, w = u.val := ⟨⟨w, h⟩, rfl⟩
theorem Later.cell {W : World} (u : Later W) (b o : Nat) (h : b < W.heap.size) : u.val.cell? ⟨b, o, none⟩ = W.cell? ⟨b, o, none⟩ := u.prop.cell (p := ⟨b, o, none⟩) h
theorem Later.frozen {W : World} (u : Later W) (b o : Nat) (h : b < W.heap.size) : u.val.frozen? ⟨b, o, none⟩ = W.frozen? ⟨b, o, none⟩ := u.prop.frozen (p := ⟨b, o, none⟩) h

theorem wp_region_later {P : Program} {id : Nat} {Q : Exit → Act → World → Prop} {a : Act} {W : World} {l : List Oper} (hm : P.follows .mixedOrders = true) (hB : Region.lexB .any l.toArray = true)
    (h : wpQuiet P l.toArray (fun w' => ∃ u : Later W, w' = u.val) (fun a' => ∀ w', (∃ u : Later W, w' = u.val) → Q .normal a' w') l a) : (Code.region id l.toArray true).wp P Q a W :=
  wp_region_quiet (C := fun w' => ∃ u : Later W, w' = u.val) hm hB (Later.of (Below.refl W.heap.size W).drew) (by simpa using h)

/-- a contract that only makes memory, met in such a region -/
theorem later_call {P : Program} {f : FuncId} {args : Array Value} {W : World} {u : Later W} {v : Value}
    (h : Calls P f args u.val fun e w' => e = .returned v ∧ Below u.val.heap.size u.val w') : Calls P f args u.val fun e w'' => e = .returned v ∧ ∃ m : Later W, w'' = m.val :=
  h.mono fun _ _ ⟨he, hb⟩ => ⟨he, Later.of (u.prop.trans (hb.mono u.prop.size))⟩
theorem later_same {P : Program} {f : FuncId} {args : Array Value} {W : World} {u : Later W} {v : Value}
    (h : Calls P f args u.val fun e w' => e = .returned v ∧ u.val = w') : Calls P f args u.val fun e w'' => e = .returned v ∧ ∃ m : Later W, w'' = m.val :=
  h.mono fun _ _ ⟨he, hb⟩ => ⟨he, u, hb.symm⟩
theorem later_drew {P : Program} {f : FuncId} {args : Array Value} {W : World} {u : Later W} {v : Value}
    (h : Calls P f args u.val fun e w' => e = .returned v ∧ ∃ n, w' = u.val.drewN n) : Calls P f args u.val fun e w'' => e = .returned v ∧ ∃ m : Later W, w'' = m.val :=
  h.mono fun _ _ ⟨he, n, hb⟩ => ⟨he, Later.of (by rw [hb]; exact u.prop.trans ⟨rfl, rfl, rfl, Nat.le_refl _, fun _ _ => rfl⟩)⟩
end Go.Proofs.Ytajpggnmhkpbkaa
