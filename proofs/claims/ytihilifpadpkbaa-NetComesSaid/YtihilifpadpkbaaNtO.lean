/- What an act does to a net and to the reference's, side by side: acts that do nothing, and Calm. -/
import Derived.Test.YtihilifpadpkbaaNtE
import Derived.Test.YtihilifpadpkbaaNtJ
import Derived.Test.YtihilifpadpkbaaNtI
import Derived.Test.YtihilifpadpkbaaNtQ
import Derived.Deep.RegionHeld3
set_option linter.unusedVariables false
set_option linter.unusedSimpArgs false
namespace Go.Proofs.Ytihilifpadpkbaa
open Go.RowKit Nt

theorem LS.turnE {α : Type} {enc : α → List Value} {n : Nat} {w w' : World} {v : Value} {l : List α} {S : Nat → Prop} (h : LS enc n w v l) (ht : Turn S w w') (hs : l ≠ [] → ∀ b, v.ownBlock = some b → ¬ S b) : LS enc n w' v l := by
  by_cases hl : l = []
  · subst hl
    obtain ⟨p, cap, rfl, h1, h2, _⟩ := h
    exact ⟨p, cap, rfl, h1, h2, fun h => absurd rfl h⟩
  · exact h.turn ht (hs hl)
/-- a net at g and the reference's at r, of the same letters -/
structure Two (w : World) (B g r : Nat) (k : Int) (calm : Bool) (v lv av : Value) (all : List Hd) : Prop where
  nn : IsN w B g k calm v all
  rr : IsR w B r k calm lv av all
  ne : g ≠ r
  vr : v.ownBlock ≠ some r
  lg : ∀ i, lv.ownBlock = some i → i ≠ g ∧ v.ownBlock ≠ some i
  ag : ∀ i, av.ownBlock = some i → i ≠ g ∧ v.ownBlock ≠ some i
/-- what acts on both may write -/
def Fo (g r : Nat) (v : Value) : Nat → Prop := fun i => i = g ∨ i = r ∨ v.ownBlock = some i
section
variable {w w' : World} {B g r : Nat} {k : Int} {calm : Bool} {v lv av : Value} {all : List Hd}
theorem Two.turn {S : Nat → Prop} (t : Two w B g r k calm v lv av all) (h : Turn S w w') (hg : ¬ S g) (hr : ¬ S r) (hv : ∀ b, v.ownBlock = some b → ¬ S b) (hl : ∀ b, lv.ownBlock = some b → ¬ S b) (ha : ∀ b, av.ownBlock = some b → ¬ S b) : Two w' B g r k calm v lv av all :=
  ⟨t.nn.turn h hg hv, t.rr.turn h hr hl ha, t.ne, t.vr, t.lg, t.ag⟩
theorem Two.below (t : Two w B g r k calm v lv av all) (h : Below w.heap.size w w') : Two w' B g r k calm v lv av all := t.turn (.of_below h) (S := fun _ => False) id id (fun _ _ => id) (fun _ _ => id) (fun _ _ => id)
theorem Two.fo (t : Two w B g r k calm v lv av all) {i : Nat} (h : Fo g r v i) : B ≤ i := by
  rcases h with h | h | h
  · exact h ▸ t.nn.1
  · exact h ▸ t.rr.b
  · exact (recs_base t.nn.2.2.1 h).1
end
/-- what an act leaves: both nets in state s; nothing else was written -/
structure Done (w : World) (B g r : Nat) (k : Int) (v lv av : Value) (s : St) (w' : World) : Prop where
  ex : ∃ v' lv' av', Two w' B g r k s.1 v' lv' av' s.2 ∧ (∀ b, v'.ownBlock = some b → v.ownBlock = some b ∨ w.heap.size ≤ b) ∧ (∀ b, lv'.ownBlock = some b → lv.ownBlock = some b ∨ w.heap.size ≤ b) ∧ (∀ b, av'.ownBlock = some b → av.ownBlock = some b ∨ w.heap.size ≤ b)
  t : Turn (Fo g r v) w w'

section
variable (w : World) (B g r : Nat) (k : Int) (calm : Bool) (v lv av : Value) (all : List Hd)
set_option maxRecDepth 4000 in
set_option maxHeartbeats 2000000 in
theorem doNo_any (T : Two w B g r k calm v lv av all) (hk : 1 ≤ k) (hk2 : k ≤ 64) (a : Ac) (ha : ∀ x ∈ a.ls, x.fit) (p1 : Option Addr) (n1 c1 : Nat) (p2 : Option Addr) (n2 c2 : Nat) (hl : LS Lt.cells 15 w (.slice p1 n1 c1) a.ls) (hp : LS intC 1 w (.slice p2 n2 c2) a.ps)
    (bl : a.ls ≠ [] → ∀ b, (Value.slice p1 n1 c1).ownBlock = some b → b < B) (bp : a.ps ≠ [] → ∀ b, (Value.slice p2 n2 c2).ownBlock = some b → b < B) (hB : B ≤ w.heap.size) (hln : all.length ≤ 2000) (hag : ∀ x ∈ all, 0 ≤ x.age ∧ x.age < k) (hal : a.ls.length ≤ 20) (h1 : a.kind ≠ 1) (h2 : a.kind ≠ 2) (h3 : a.kind ≠ 3) :
    Calls Try.prog 17 #[.pointer (some ⟨g, 0, none⟩), .pointer (some ⟨r, 0, none⟩), .agg #[.int .i64 a.kind, .slice p1 n1 c1, .slice p2 n2 c2, .bool a.is]] w fun e w' => e = .returned (.bool true) ∧ Done w B g r k v lv av (Nt.step k (calm, all) a) w' := by
  have hcx := fun j => cell_of_row _ w.heap.size j _ _ _ (new_rowW w (.cells #[.int .i64 a.kind, .slice p1 n1 c1, .slice p2 n2 c2, .bool a.is] 53 (0, 0)) _ rfl)
  have HS : Hid (Nt.step k (calm, all) a = (calm, all)) := Lib.hid (by unfold Nt.step; rw [if_neg h1, if_neg h2, if_neg h3])
  have HT := Lib.hid T
  have f1 : (a.kind == 1) = false := by simpa using h1
  have f2 : (a.kind == 2) = false := by simpa using h2
  have f3 : (a.kind == 3) = false := by simpa using h3
  clear T ha hl hp bl bp hag h1 h2 h3
  go_enter Try.func17, Try.ntmps17
  go_wp2
  go_ret
  rw [HS.out]
  exact ⟨rfl, ⟨⟨v, lv, av, HT.out.below ((Below.refl _ _).alloc (Nat.le_refl _) _), fun b hb => .inl hb, fun b hb => .inl hb, fun b hb => .inl hb⟩, (Turn.refl _ w).alloc _⟩⟩

set_option maxRecDepth 4000 in
set_option maxHeartbeats 2000000 in
theorem doCalm_any (T : Two w B g r k calm v lv av all) (hk : 1 ≤ k) (hk2 : k ≤ 64) (a : Ac) (ha : ∀ x ∈ a.ls, x.fit) (p1 : Option Addr) (n1 c1 : Nat) (p2 : Option Addr) (n2 c2 : Nat) (hl : LS Lt.cells 15 w (.slice p1 n1 c1) a.ls) (hp : LS intC 1 w (.slice p2 n2 c2) a.ps)
    (bl : a.ls ≠ [] → ∀ b, (Value.slice p1 n1 c1).ownBlock = some b → b < B) (bp : a.ps ≠ [] → ∀ b, (Value.slice p2 n2 c2).ownBlock = some b → b < B) (hB : B ≤ w.heap.size) (hln : all.length ≤ 2000) (hag : ∀ x ∈ all, 0 ≤ x.age ∧ x.age < k) (hal : a.ls.length ≤ 20) (h3 : a.kind = 3) :
    Calls Try.prog 17 #[.pointer (some ⟨g, 0, none⟩), .pointer (some ⟨r, 0, none⟩), .agg #[.int .i64 a.kind, .slice p1 n1 c1, .slice p2 n2 c2, .bool a.is]] w fun e w' => e = .returned (.bool true) ∧ Done w B g r k v lv av (Nt.step k (calm, all) a) w' := by
  have HX := Lib.hid (new_rowW w (.cells #[.int .i64 3, .slice p1 n1 c1, .slice p2 n2 c2, .bool a.is] 53 (0, 0)) _ rfl)
  have hcx := fun j => cell_of_row _ w.heap.size j _ _ _ HX.out
  have HS : Hid (Nt.step k (calm, all) a = (a.is, all)) := Lib.hid (by unfold Nt.step; rw [if_neg (by omega), if_neg (by omega), if_pos h3])
  have HT := Lib.hid (T.below ((Below.refl w.heap.size w).alloc (Nat.le_refl _) (.cells #[.int .i64 3, .slice p1 n1 c1, .slice p2 n2 c2, .bool a.is] 53 (0, 0))))
  have HTA := Lib.hid ((Turn.refl (Fo g r v) w).alloc (.cells #[.int .i64 3, .slice p1 n1 c1, .slice p2 n2 c2, .bool a.is] 53 (0, 0)))
  have HGW := Lib.hid (And.intro (block_lt T.nn.2.1) (block_lt T.rr.row))
  have hk0 : 0 < k := by omega
  clear T ha hl hp bl bp hag
  rw [h3]
  go_enter Try.func17, Try.ntmps17
  go_wp2_with fail
  generalize w.alloc (.cells #[.int .i64 3, .slice p1 n1 c1, .slice p2 n2 c2, .bool a.is] 53 (0, 0)) = w0 at *
  refine (ncalm_any w0 B g k calm v all HT.out.nn hk0 a.is).mono ?_
  rintro e w1 ⟨rfl, hn, ht⟩
  have HN1 := Lib.hid hn
  have HT1 := Lib.hid (HTA.out.trans (ht.mono (fun i _ h => .inl h)))
  have HR1 := Lib.hid (HT.out.rr.turn ht (fun e => HT.out.ne e.symm) (fun b hb e => (HT.out.lg b hb).1 e) (fun b hb e => (HT.out.ag b hb).1 e))
  have HX1 := Lib.hid (show w1.heap[w.heap.size]? = some (.cells #[.int .i64 3, .slice p1 n1 c1, .slice p2 n2 c2, .bool a.is] 53 (0, 0)) from (ht.block _ (block_lt HX.out) (by have := HGW.out.1; omega)).trans HX.out)
  have hc1 := fun j => cell_of_row _ w.heap.size j _ _ _ HX1.out
  have hcr := fun j => cell_of_row _ r j _ _ _ HR1.out.row
  have hfr := fun j => frozen_of_row _ r j _ _ HR1.out.row
  clear hn ht hcx
  go_wp2
  go_ret
  have hts : Turn (· = r) w1 (w1.setCell ⟨r, 1, none⟩ (.bool a.is)) := (Turn.refl (· = r) w1).setCell rfl _ _
  rw [HS.out]
  refine ⟨rfl, ⟨⟨v, lv, av, ⟨HN1.out.turn hts HT.out.ne (fun b hb e => HT.out.vr (e ▸ hb)), ⟨HR1.out.b, heap_setCell_same w1 r 1 _ _ _ HR1.out.row, HR1.out.l.turn hts (fun b hb e => (HR1.out.lg b hb).2.2 e), HR1.out.a.turn hts (fun b hb e => (HR1.out.ag b hb).2.2 e), ?_, ?_⟩, HT.out.ne, HT.out.vr, HT.out.lg, HT.out.ag⟩, fun b hb => .inl hb, fun b hb => .inl hb, fun b hb => .inl hb⟩, HT1.out.trans (hts.mono (fun i _ h => .inr (.inl h)))⟩⟩
  · intro i hi; have := HR1.out.lg i hi; simpa using this
  · intro i hi; have := HR1.out.ag i hi; simpa using this
end
end Go.Proofs.Ytihilifpadpkbaa
