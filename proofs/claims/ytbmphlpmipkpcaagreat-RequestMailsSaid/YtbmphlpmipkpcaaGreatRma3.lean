/- Plain words for tickets: coupons, taxes, events; which tickets may be. Contracts of package number's leaf functions: Check, mayCarrier, maySerial, Make. Records in memory: more words. Contracts: the parts of a request or a mail, where they are weighed (request.pass: weigh, number, day, money, ticket, place, flight). -/
import Derived.Test.YtbmphlpmipkpcaaGreatRma1
import Derived.Test.YtbmphlpmipkpcaaGreatRma2
import Derived.Test.YtbmphlpmipkpcaaGreatRows
import Derived.WalkKit
import Derived.WalkSpells
import Derived.WalkLawsBesides
import Derived.Deep.QuietTactic
import Derived.BigQuiet
import Derived.Lib.Hide
import Derived.StillTailTactics

section
set_option linter.unusedVariables false
set_option linter.unusedSimpArgs false
namespace Go.Proofs.YtbmphlpmipkpcaaGreat
open Go.RowKit

structure Cpn where
  fl : Int
  dy : Int
  va : Int
  st : Int
  ho : Int
  nx : Int
structure Txx where
  cd : Int
  am : Int
structure Evt where
  dy : Int
  co : Int
  fr : Int
  to : Int
structure Tk where
  num : Int
  loc : ByteArray
  iss : Int
  cs : List Cpn
  ts : List Txx
  prev : Int
  org : Int
  fst : Int
  vou : Int
  posts : Int
  hs : List Evt

def Cpn.cells (c : Cpn) : List Value := [.int .i64 c.fl, .int .i64 c.dy, .int .i64 c.va, .int .i64 c.st, .int .i64 c.ho, .int .u64 c.nx]
def Txx.cells (x : Txx) : List Value := [.int .i64 x.cd, .int .i64 x.am]
def Evt.cells (x : Evt) : List Value := [.int .i64 x.dy, .int .i64 x.co, .int .i64 x.fr, .int .i64 x.to]
theorem Cpn.cells_length (c : Cpn) : c.cells.length = 6 := rfl
theorem Txx.cells_length (c : Txx) : c.cells.length = 2 := rfl
theorem Evt.cells_length (c : Evt) : c.cells.length = 4 := rfl
theorem Cpn.cells_one (c : Cpn) : ∀ u ∈ c.cells, u.oneCell' = true := by
  intro u hu; simp only [Cpn.cells, List.mem_cons, List.not_mem_nil, or_false] at hu; rcases hu with rfl | rfl | rfl | rfl | rfl | rfl <;> rfl
theorem Txx.cells_one (c : Txx) : ∀ u ∈ c.cells, u.oneCell' = true := by
  intro u hu; simp only [Txx.cells, List.mem_cons, List.not_mem_nil, or_false] at hu; rcases hu with rfl | rfl <;> rfl
theorem Evt.cells_one (c : Evt) : ∀ u ∈ c.cells, u.oneCell' = true := by
  intro u hu; simp only [Evt.cells, List.mem_cons, List.not_mem_nil, or_false] at hu; rcases hu with rfl | rfl | rfl | rfl <;> rfl
def I64 (n : Int) : Prop := -9223372036854775808 ≤ n ∧ n ≤ 9223372036854775807
def U64 (n : Int) : Prop := 0 ≤ n ∧ n ≤ 18446744073709551615
def Cpn.wf (c : Cpn) : Prop := I64 c.fl ∧ I64 c.dy ∧ I64 c.va ∧ I64 c.st ∧ I64 c.ho ∧ U64 c.nx
def Txx.wf (c : Txx) : Prop := I64 c.cd ∧ I64 c.am
def Evt.wf (c : Evt) : Prop := I64 c.dy ∧ I64 c.co ∧ I64 c.fr ∧ I64 c.to
structure Tk.wf (t : Tk) : Prop where
  num : U64 t.num
  loc : t.loc.size ≤ maxLen
  iss : I64 t.iss
  cs : ∀ c ∈ t.cs, c.wf
  ts : ∀ c ∈ t.ts, c.wf
  prev : U64 t.prev
  org : U64 t.org
  fst : U64 t.fst
  vou : I64 t.vou
  posts : I64 t.posts
  hs : ∀ c ∈ t.hs, c.wf

namespace Tkt
def dayB (n : Int) : Bool := decide (0 ≤ n) && decide (n ≤ 1000000)
def someB (n : Int) : Bool := decide (0 ≤ n) && decide (n ≤ 1000000000000)
def numB (n : Int) : Bool := decide (Num.check n = 0)
def othB (num n : Int) : Bool := numB n && !decide (n = num)
def holdB (num h : Int) : Bool := decide (101 ≤ h) && decide (h ≤ 1000) && !decide (h = Num.carr num + 1)
def withB (num s h : Int) : Bool := if s = 9 then holdB num h else if s = 5 then othB num h else decide (h = 0)
def stB (s : Int) : Bool := decide (1 ≤ s) && decide (s ≤ 9)
def cpnB (num : Int) (c : Cpn) : Bool := decide (1 ≤ c.fl) && decide (c.fl ≤ 9999) && dayB c.dy && someB c.va && stB c.st && (if c.st = 9 then holdB num c.ho else decide (c.ho = 0)) && (if c.st = 5 then othB num c.nx else decide (c.nx = 0))
/-- taxes from a code on -/
def taxB : Int → List Txx → Bool
  | _, [] => true
  | l, x :: r => decide (l ≤ x.cd) && decide (x.cd ≤ 99) && someB x.am && taxB (x.cd + 1) r
/-- what a status leads to -/
def bitsI (s : Int) : Int := if s = 1 then 996 else if s = 2 then 10 else if s = 3 then 20 else if s = 8 then 66 else if s = 9 then 18 else 0
def leadsB (a b : Int) : Bool := stB b && decide (bitsI a / 2 ^ b.toNat % 2 = 1)
def liveB (s : Int) : Bool := !decide (bitsI s = 0)
def lastB (s : Int) : Bool := stB s && decide (bitsI s = 0)
/-- what a history tells: what the coupons are now, its last day, what they were behind a day; none: a step is not as it should be -/
structure Told where
  now : List Int
  at_ : Int
  thn : List Int
def evOk (s : Told) (x : Evt) : Bool := decide (1 ≤ x.co) && decide (x.co ≤ s.now.length) && decide (s.at_ ≤ x.dy) && decide (x.dy ≤ 1000000) && decide (x.fr = s.now.getD (x.co.toNat - 1) 0) && leadsB x.fr x.to
def evDo (u : Int) (s : Told) (x : Evt) : Told := ⟨s.now.set (x.co.toNat - 1) x.to, x.dy, if x.dy ≤ u then s.thn.set (x.co.toNat - 1) x.to else s.thn⟩
def stepE (u : Int) (o : Option Told) (x : Evt) : Option Told := match o with | none => none | some s => if evOk s x = true then some (evDo u s x) else none
def told0 (n : Nat) (iss : Int) : Told := ⟨List.replicate n 1, iss, List.replicate n 1⟩
def toldE (u : Int) (n : Nat) (iss : Int) (hs : List Evt) : Option Told := hs.foldl (stepE u) (some (told0 n iss))
def thenL (u : Int) (t : Tk) : List Int := match toldE u t.cs.length t.iss t.hs with | some s => s.thn | none => []
def histB (u : Int) (t : Tk) : Bool := match toldE u t.cs.length t.iss t.hs with | some s => decide (s.now = t.cs.map (·.st)) | none => false
def headB (t : Tk) : Bool := numB t.num && Num.loc t.loc.data.toList && dayB t.iss && (if t.prev = 0 then decide (t.org = t.num) else othB t.num t.prev && othB t.num t.org) && numB t.fst && decide (0 ≤ t.vou) && decide (t.vou ≤ 1125899906842624) && decide (0 ≤ t.posts) && decide (t.posts ≤ 200)
def lensB (t : Tk) : Bool := decide (1 ≤ t.cs.length) && decide (t.cs.length ≤ 4) && decide (t.ts.length ≤ 4) && decide (t.hs.length ≤ 60)
def mayB (t : Tk) : Bool := headB t && lensB t && t.cs.all (cpnB t.num) && taxB 1 t.ts && histB 0 t

theorem evOk_now {s s' : Told} {x : Evt} (h1 : s.now = s'.now) (h2 : s.at_ = s'.at_) : evOk s x = evOk s' x := by unfold evOk; rw [h1, h2]
/-- only what was behind a day hangs on the day -/
theorem told_any (u u' : Int) (n : Nat) (iss : Int) (hs : List Evt) : (toldE u n iss hs).map (fun s => (s.now, s.at_)) = (toldE u' n iss hs).map fun s => (s.now, s.at_) := by
  have key : ∀ (hs : List Evt) (o o' : Option Told), (o.map fun s => (s.now, s.at_)) = (o'.map fun s => (s.now, s.at_)) → ((hs.foldl (stepE u) o).map fun s => (s.now, s.at_)) = ((hs.foldl (stepE u') o').map fun s => (s.now, s.at_)) := by
    intro hs
    induction hs with
    | nil => intro o o' h; exact h
    | cons x hs ih =>
      intro o o' h
      refine ih _ _ ?_
      cases o with
      | none => cases o' with
        | none => rfl
        | some s' => cases h
      | some s => cases o' with
        | none => cases h
        | some s' =>
          simp at h
          show (stepE u (some s) x).map _ = (stepE u' (some s') x).map _
          unfold stepE
          simp only
          rw [evOk_now (x := x) h.1 h.2]
          split
          · simp [evDo, h.1]
          · rfl
  exact key hs _ _ rfl
theorem histB_any (u u' : Int) (t : Tk) : histB u t = histB u' t := by
  have h := told_any u u' t.cs.length t.iss t.hs
  unfold histB
  revert h
  cases toldE u t.cs.length t.iss t.hs <;> cases toldE u' t.cs.length t.iss t.hs <;> intro h <;> simp at h ⊢
  rw [h.1]
theorem toldE_snoc (u : Int) (n : Nat) (iss : Int) (hs : List Evt) (x : Evt) : toldE u n iss (hs ++ [x]) = stepE u (toldE u n iss hs) x := by
  unfold toldE; rw [List.foldl_append]; rfl
theorem stepE_none (u : Int) (hs : List Evt) : hs.foldl (stepE u) none = none := by
  induction hs with
  | nil => rfl
  | cons x hs ih => exact ih
theorem toldE_none {u : Int} {n : Nat} {iss : Int} {hs : List Evt} (k : Nat) (h : toldE u n iss (hs.take k) = none) : toldE u n iss hs = none := by
  unfold toldE at h ⊢
  conv => lhs; rw [← List.take_append_drop k hs]
  rw [List.foldl_append, h, stepE_none]
theorem stepE_len {u : Int} {o : Option Told} {x : Evt} {s' : Told} (h : stepE u o x = some s') : ∃ s, o = some s ∧ evOk s x = true ∧ s' = evDo u s x := by
  cases o with
  | none => cases h
  | some s =>
    unfold stepE at h
    simp only at h
    split at h
    · rename_i hk
      injection h with h
      exact ⟨s, rfl, hk, h.symm⟩
    · cases h
theorem toldE_len {u : Int} {n : Nat} {iss : Int} (hs : List Evt) {s : Told} (h : toldE u n iss hs = some s) : s.now.length = n ∧ s.thn.length = n ∧ iss ≤ s.at_ := by
  have key : ∀ (l : List Evt) (o : Option Told), (∀ s, o = some s → s.now.length = n ∧ s.thn.length = n ∧ iss ≤ s.at_) → ∀ s, l.foldl (stepE u) o = some s → s.now.length = n ∧ s.thn.length = n ∧ iss ≤ s.at_ := by
    intro l
    induction l with
    | nil => intro o ho s hs; exact ho s hs
    | cons x l ih =>
      intro o ho
      refine ih _ fun s hs => ?_
      obtain ⟨s0, rfl, hk, rfl⟩ := stepE_len hs
      obtain ⟨h1, h2, h3⟩ := ho s0 rfl
      have h4 : s0.at_ ≤ x.dy := by unfold evOk at hk; simp only [Bool.and_eq_true, decide_eq_true_eq] at hk; omega
      refine ⟨by simp [evDo, h1], ?_, by simp only [evDo]; omega⟩
      simp only [evDo]; split <;> simp [h2]
  exact key hs _ (fun s e => by injection e with e; subst e; simp [told0]) s h
end Tkt
end Go.Proofs.YtbmphlpmipkpcaaGreat
end

section
namespace Go.Proofs.YtbmphlpmipkpcaaGreat
open Go.RowKit

theorem ret_int {k : IntKind} {a b : Int} (h : a = b) : Ending.returned (.int k a) = .returned (.int k b) := by rw [h]
theorem ret_bool {a b : Bool} (h : a = b) : Ending.returned (.bool a) = .returned (.bool b) := by rw [h]

set_option maxHeartbeats 400000 in
theorem mayCarrier_any (c : Int) (w : World) :
    Calls Tryz.prog 220 #[.int .i64 c] w fun e w' => e = .returned (.bool (Num.mayC c)) ∧ w = w' := by
  go_enter Tryz.func220, Tryz.ntmps220
  go_wp2
  all_goals
    go_ret
    refine ⟨ret_bool ?_, rfl⟩
    unfold Num.mayC
    simp; omega

set_option maxHeartbeats 400000 in
theorem maySerial_any (c : Int) (w : World) :
    Calls Tryz.prog 221 #[.int .i64 c] w fun e w' => e = .returned (.bool (Num.mayS c)) ∧ w = w' := by
  go_enter Tryz.func221, Tryz.ntmps221
  go_wp2
  all_goals
    go_ret
    refine ⟨ret_bool ?_, rfl⟩
    unfold Num.mayS
    simp; omega

set_option maxHeartbeats 400000 in
theorem check_any (n : Int) (h0 : 0 ≤ n) (hb : n ≤ 18446744073709551615) (w : World) :
    Calls Tryz.prog 168 #[.int .u64 n] w fun e w' => e = .returned (.int .i64 (Num.check n)) ∧ w = w' := by
  go_enter Tryz.func168, Tryz.ntmps168
  go_wp2
  all_goals
    go_ret
    refine ⟨ret_int ?_, rfl⟩
    unfold Num.check
    simp_all
    try omega

theorem ret_pair {k k' : IntKind} {a b c d : Int} (h : a = b) (h' : c = d) : Ending.returned (.tuple #[.int k a, .int k' c]) = .returned (.tuple #[.int k b, .int k' d]) := by rw [h, h']

set_option maxHeartbeats 400000 in
theorem make_any (c s : Int) (w : World) :
    Calls Tryz.prog 216 #[.int .i64 c, .int .i64 s] w fun e w' => e = .returned (.tuple #[.int .u64 (Num.mkN c s), .int .i64 (Num.mkE c s)]) ∧ w = w' := by
  by_cases h : (Num.mayC c && Num.mayS s) = true
  · have h1 : Num.mkN c s = Num.make c s := by unfold Num.mkN; rw [if_pos h]
    have h2 : Num.mkE c s = 0 := by unfold Num.mkE; rw [if_pos h]
    rw [h1, h2]; clear h1 h2
    rw [Bool.and_eq_true] at h
    obtain ⟨hc, hs⟩ := h
    have bc := Num.mayC_iff.1 hc
    have bs := Num.mayS_iff.1 hs
    go_enter Tryz.func216, Tryz.ntmps216
    go_wp2_with (first | (go_at_call 220; refine (mayCarrier_any _ _).mono ?_; rintro e w' ⟨rfl, rfl⟩) | (go_at_call 221; refine (maySerial_any _ _).mono ?_; rintro e w' ⟨rfl, rfl⟩))
    go_ret2
    refine ⟨ret_pair ?_ rfl, rfl⟩
    unfold Num.make Num.body
    omega
  · have h1 : Num.mkN c s = 0 := by unfold Num.mkN; rw [if_neg h]
    have h2 : Num.mkE c s = 2 := by unfold Num.mkE; rw [if_neg h]
    rw [h1, h2]; clear h1 h2
    have H := Lib.hid h; clear h
    go_enter Tryz.func216, Tryz.ntmps216
    go_wp2_with (first | (go_at_call 220; refine (mayCarrier_any _ _).mono ?_; rintro e w' ⟨rfl, rfl⟩) | (go_at_call 221; refine (maySerial_any _ _).mono ?_; rintro e w' ⟨rfl, rfl⟩))
    · go_ret2
      exact ⟨rfl, rfl⟩
    · exact absurd (by simp_all) H.out
    · go_ret2
      exact ⟨rfl, rfl⟩

set_option maxHeartbeats 400000 in
theorem parts_any (n : Int) (h0 : 0 ≤ n) (hb : n ≤ 18446744073709551615) (w : World) :
    Calls Tryz.prog 222 #[.int .u64 n] w fun e w' => e = .returned (.tuple #[.int .i64 (Num.carr n), .int .i64 (Num.seri n)]) ∧ w = w' := by
  go_enter Tryz.func222, Tryz.ntmps222
  go_wp2_with (first | (go_at_call 168; refine (check_any _ (by omega) (by omega) _).mono ?_; rintro e w' ⟨rfl, rfl⟩))
  all_goals
    go_ret2
    refine ⟨ret_pair ?_ ?_, rfl⟩
  all_goals
    first | unfold Num.carr | unfold Num.seri
    simp_all

set_option maxHeartbeats 400000 in
theorem carrier_any (n : Int) (h0 : 0 ≤ n) (hb : n ≤ 18446744073709551615) (w : World) :
    Calls Tryz.prog 217 #[.int .u64 n] w fun e w' => e = .returned (.int .i64 (Num.carr n)) ∧ w = w' := by
  go_enter Tryz.func217, Tryz.ntmps217
  go_wp2_with (first | (go_at_call 222; refine (parts_any _ h0 hb _).mono ?_; rintro e w' ⟨rfl, rfl⟩))
  go_ret
  exact ⟨rfl, rfl⟩

end Go.Proofs.YtbmphlpmipkpcaaGreat
end

section
set_option linter.unusedVariables false
set_option linter.unusedSimpArgs false
namespace Go.Proofs.YtbmphlpmipkpcaaGreat
open Go.RowKit
variable {α : Type} {enc : α → List Value} {n : Nat}
theorem row_one {w : World} {g : Nat} {e : TypeId} {x : α} {cs : Array Value} (hh : w.heap[g]? = some (.cells cs e (0, 0))) (hc : cs = (enc x).toArray) (hn : ∀ x, (enc x).length = n) (hp : 0 < n) : LS enc n w (.slice (some ⟨g, 0, none⟩) 1 1) [x] := by
  subst hc
  have h : RowL enc n w g [x] := RowL.of_block hh hn (by simp [hn]) (by rw [show [x].length * n = n from Nat.one_mul n]; simp [encL, ← hn x])
  exact h.slice hn hp (Nat.le_refl _) (by simp [maxLen])
end Go.Proofs.YtbmphlpmipkpcaaGreat
end

section
set_option linter.unusedVariables false
set_option linter.unusedSimpArgs false
namespace Go.Proofs.YtbmphlpmipkpcaaGreat
open Go.RowKit

/-- of the blocks that were there those of S alone may be other ones -/
structure Turn (S : Nat → Prop) (w w' : World) : Prop where
  os : w'.os = w.os
  tape : w'.tape = w.tape
  output : w'.output = w.output
  size : w.heap.size ≤ w'.heap.size
  block : ∀ k, k < w.heap.size → ¬ S k → w'.heap[k]? = w.heap[k]?
theorem Turn.refl (S : Nat → Prop) (w : World) : Turn S w w := ⟨rfl, rfl, rfl, Nat.le_refl _, fun _ _ _ => rfl⟩
theorem Turn.trans {S : Nat → Prop} {a b c : World} (h : Turn S a b) (k : Turn S b c) : Turn S a c :=
  ⟨k.os.trans h.os, k.tape.trans h.tape, k.output.trans h.output, Nat.le_trans h.size k.size, fun i hi hg => (k.block i (Nat.lt_of_lt_of_le hi h.size) hg).trans (h.block i hi hg)⟩
theorem Turn.mono {S S' : Nat → Prop} {a b : World} (h : Turn S a b) (hs : ∀ k, k < a.heap.size → S k → S' k) : Turn S' a b :=
  ⟨h.os, h.tape, h.output, h.size, fun k hk hn => h.block k hk fun hx => hn (hs k hk hx)⟩
theorem Turn.of_below {S : Nat → Prop} {a w : World} (h : Below a.heap.size a w) : Turn S a w := ⟨h.os, h.tape, h.output, h.size, fun k hk _ => h.block k hk⟩
theorem Turn.setCell {S : Nat → Prop} {a w : World} (h : Turn S a w) {g : Nat} (hg : S g) (o : Nat) (u : Value) : Turn S a (w.setCell ⟨g, o, none⟩ u) :=
  h.trans ⟨rfl, rfl, rfl, by simp [World.setCell], fun k hk hn => Below.heap_setCell _ _ _ _ (fun e => hn (by cases e; exact hg))⟩
theorem Turn.alloc {S : Nat → Prop} {a w : World} (h : Turn S a w) (o : Obj) : Turn S a (w.alloc o) := h.trans (.of_below ((Below.refl _ _).alloc (Nat.le_refl _) _))
theorem Turn.drew {S : Nat → Prop} {a w : World} (h : Turn S a w) : Turn S a w.drew := h.trans ⟨rfl, rfl, rfl, Nat.le_refl _, fun _ _ _ => rfl⟩
theorem Turn.drewN {S : Nat → Prop} {a w : World} (h : Turn S a w) (n : Nat) : Turn S a (w.drewN n) := h.trans ⟨rfl, rfl, rfl, Nat.le_refl _, fun _ _ _ => rfl⟩
theorem Turn.after {S S' : Nat → Prop} {a b c : World} (h : Turn S a b) (k : Turn S' b c) (hs : ∀ i, i < a.heap.size → S' i → S i) : Turn S a c :=
  ⟨k.os.trans h.os, k.tape.trans h.tape, k.output.trans h.output, Nat.le_trans h.size k.size, fun i hi hg => (k.block i (Nat.lt_of_lt_of_le hi h.size) fun hx => hg (hs i hi hx)).trans (h.block i hi hg)⟩
theorem row_allocS {w : World} {g : Nat} {ob : Obj} (h : w.heap[g]? = some ob) (o : Obj) : (w.alloc o).heap[g]? = some ob := (((Below.refl w.heap.size w).alloc (Nat.le_refl _) o).block g (block_lt h)).trans h
theorem Turn.below {S : Nat → Prop} {B : Nat} {a w w' : World} (h : Below B a w) (hB : B ≤ w.heap.size) (k : Turn S w w') (hS : ∀ i, S i → B ≤ i) : Below B a w' :=
  h.trans ⟨k.os, k.tape, k.output, k.size, fun i hi => k.block i (by omega) (fun hx => by have := hS i hx; omega)⟩

theorem pweigh_any (T : TypeId) (cs : Array Value) (g : Nat) (gd may : Bool) (w : World) (hx : w.heap[g]? = some (.cells cs T (0, 0))) (h2 : cs[2]? = some (.bool gd)) :
    Calls Tryz.prog 148 #[.pointer (some ⟨g, 0, none⟩), .bool may] w fun e w' => e = .returned (.tuple #[]) ∧ w'.heap[g]? = some (.cells (cs.setIfInBounds 2 (.bool (gd && may))) T (0, 0)) ∧ Turn (· = g) w w' := by
  have c2 : w.cell? ⟨g, 2, none⟩ = some (.bool gd) := (cell_of_row w g 2 _ _ _ hx).trans h2
  have hf := fun j => frozen_of_row w g j _ _ hx
  have HX := Lib.hid hx
  clear hx h2
  cases gd
  · go_enter Tryz.func148, Tryz.ntmps148
    go_wp2
    go_end0
    exact ⟨rfl, heap_setCell_same _ _ _ _ _ _ HX.out, (Turn.refl (fun k => k = g) w).setCell rfl _ _⟩
  · go_enter Tryz.func148, Tryz.ntmps148
    go_wp2
    go_end0
    exact ⟨rfl, heap_setCell_same _ _ _ _ _ _ HX.out, (Turn.refl (fun k => k = g) w).setCell rfl _ _⟩

def inB (lo hi v : Int) : Bool := decide (lo ≤ v) && decide (v ≤ hi)

set_option maxHeartbeats 1000000 in
theorem pnumber_any (T U : TypeId) (cs ds : Array Value) (g b o : Nat) (gd : Bool) (v sz lo hi : Int) (w : World) (hx : w.heap[g]? = some (.cells cs T (0, 0))) (hy : w.heap[b]? = some (.cells ds U (0, 0))) (hne : b ≠ g)
    (h0 : cs[0]? = some (.pointer none)) (h1 : cs[1]? = some (.pointer none)) (h2 : cs[2]? = some (.bool gd)) (hv : ds[o]? = some (.int .i64 v)) :
    Calls Tryz.prog 146 #[.pointer (some ⟨g, 0, none⟩), .pointer (some ⟨b, o, none⟩), .int .i64 sz, .int .i64 lo, .int .i64 hi] w fun e w' => e = .returned (.tuple #[]) ∧
      w'.heap[g]? = some (.cells (cs.setIfInBounds 2 (.bool (gd && inB lo hi v))) T (0, 0)) ∧ w'.heap[b]? = some (.cells (ds.setIfInBounds o (.int .i64 0)) U (0, 0)) ∧ Turn (fun k => k = g ∨ k = b) w w' := by
  have c0 : w.cell? ⟨g, 0, none⟩ = some (.pointer none) := (cell_of_row w g 0 _ _ _ hx).trans h0
  have c1 : w.cell? ⟨g, 1, none⟩ = some (.pointer none) := (cell_of_row w g 1 _ _ _ hx).trans h1
  have d0 : w.cell? ⟨b, o, none⟩ = some (.int .i64 v) := (cell_of_row w b o _ _ _ hy).trans hv
  have HW := Lib.hid (fun may => pweigh_any T cs g gd may w hx h2)
  have HY := Lib.hid hy; have HV := Lib.hid hv; have HB := Lib.hid (block_lt hy); have HNE := Lib.hid hne
  clear hx hy h0 h1 h2 hv hne
  by_cases hlo : lo ≤ v
  all_goals by_cases hhi : v ≤ hi
  all_goals
    have HI : Hid (inB lo hi v = _) := Lib.hid (by unfold inB; simp only [hlo, hhi, decide_true, decide_false, Bool.and_true, Bool.and_false]; rfl)
    go_enter Tryz.func146, Tryz.ntmps146
    go_wp2_with (go_at_call 148; refine (HW.out _).mono ?_; rintro e w1 ⟨rfl, hx1, ht1⟩; have hy1 := (ht1.block _ HB.out HNE.out).trans HY.out; have hf1 := fun j => frozen_of_row w1 b j _ _ hy1; have d1 : w1.cell? ⟨b, o, none⟩ = some (.int .i64 v) := (cell_of_row w1 b o _ _ _ hy1).trans HV.out; have HX1 := Lib.hid hx1; have HY1 := Lib.hid hy1; have HT1 := Lib.hid ht1; clear hx1 hy1 ht1)
    go_end0
    rw [HI.out]
    exact ⟨rfl, (heap_setCell_other _ _ _ _ (Ne.symm HNE.out)).trans HX1.out, heap_setCell_same _ _ _ _ _ _ HY1.out, (HT1.out.mono fun k _ hk => .inl hk).setCell (.inr rfl) _ _⟩

set_option maxHeartbeats 1000000 in
theorem pday_any (T U : TypeId) (cs ds : Array Value) (g b o : Nat) (gd : Bool) (v : Int) (w : World) (hx : w.heap[g]? = some (.cells cs T (0, 0))) (hy : w.heap[b]? = some (.cells ds U (0, 0))) (hne : b ≠ g)
    (h0 : cs[0]? = some (.pointer none)) (h1 : cs[1]? = some (.pointer none)) (h2 : cs[2]? = some (.bool gd)) (hv : ds[o]? = some (.int .i64 v)) :
    Calls Tryz.prog 147 #[.pointer (some ⟨g, 0, none⟩), .pointer (some ⟨b, o, none⟩)] w fun e w' => e = .returned (.tuple #[]) ∧
      w'.heap[g]? = some (.cells (cs.setIfInBounds 2 (.bool (gd && inB 0 1000000 v))) T (0, 0)) ∧ w'.heap[b]? = some (.cells (ds.setIfInBounds o (.int .i64 0)) U (0, 0)) ∧ Turn (fun k => k = g ∨ k = b) w w' := by
  have HN := Lib.hid (fun sz => pnumber_any T U cs ds g b o gd v sz 0 1000000 w hx hy hne h0 h1 h2 hv)
  clear hx hy hne h0 h1 h2 hv
  go_enter Tryz.func147, Tryz.ntmps147
  go_wp2_with (go_at_call 146; refine (HN.out _).mono ?_; rintro e w1 ⟨rfl, h⟩; have H := Lib.hid h; clear h)
  go_end0
  exact ⟨rfl, H.out⟩

set_option maxHeartbeats 1000000 in
theorem pplace_any (T U : TypeId) (cs ds : Array Value) (g b o : Nat) (gd : Bool) (v : Int) (w : World) (hx : w.heap[g]? = some (.cells cs T (0, 0))) (hy : w.heap[b]? = some (.cells ds U (0, 0))) (hne : b ≠ g)
    (h0 : cs[0]? = some (.pointer none)) (h1 : cs[1]? = some (.pointer none)) (h2 : cs[2]? = some (.bool gd)) (hv : ds[o]? = some (.int .i64 v)) :
    Calls Tryz.prog 113 #[.pointer (some ⟨g, 0, none⟩), .pointer (some ⟨b, o, none⟩)] w fun e w' => e = .returned (.tuple #[]) ∧
      w'.heap[g]? = some (.cells (cs.setIfInBounds 2 (.bool (gd && inB 1 4 v))) T (0, 0)) ∧ w'.heap[b]? = some (.cells (ds.setIfInBounds o (.int .i64 0)) U (0, 0)) ∧ Turn (fun k => k = g ∨ k = b) w w' := by
  have HN := Lib.hid (fun sz => pnumber_any T U cs ds g b o gd v sz 1 4 w hx hy hne h0 h1 h2 hv)
  clear hx hy hne h0 h1 h2 hv
  go_enter Tryz.func113, Tryz.ntmps113
  go_wp2_with (go_at_call 146; refine (HN.out _).mono ?_; rintro e w1 ⟨rfl, h⟩; have H := Lib.hid h; clear h)
  go_end0
  exact ⟨rfl, H.out⟩

set_option maxHeartbeats 1000000 in
theorem pmoney_any (T U : TypeId) (cs ds : Array Value) (g b o : Nat) (gd : Bool) (v : Int) (w : World) (hx : w.heap[g]? = some (.cells cs T (0, 0))) (hy : w.heap[b]? = some (.cells ds U (0, 0))) (hne : b ≠ g)
    (h0 : cs[0]? = some (.pointer none)) (h1 : cs[1]? = some (.pointer none)) (h2 : cs[2]? = some (.bool gd)) (hv : ds[o]? = some (.int .i64 v)) (hw : I64 v) :
    Calls Tryz.prog 184 #[.pointer (some ⟨g, 0, none⟩), .pointer (some ⟨b, o, none⟩)] w fun e w' => e = .returned (.tuple #[]) ∧
      w'.heap[g]? = some (.cells (cs.setIfInBounds 2 (.bool (gd && inB 0 1000000000000 v))) T (0, 0)) ∧ w'.heap[b]? = some (.cells (ds.setIfInBounds o (.int .i64 0)) U (0, 0)) ∧ Turn (fun k => k = g ∨ k = b) w w' := by
  have d0 : w.cell? ⟨b, o, none⟩ = some (.int .i64 v) := (cell_of_row w b o _ _ _ hy).trans hv
  have hgl := block_lt hx
  have hbl := block_lt hy
  have HX := Lib.hid (row_allocS hx (.cells #[.int .i64 v] 3)); have HY := Lib.hid (row_allocS hy (.cells #[.int .i64 v] 3)); have HV := Lib.hid hv
  have HM := Lib.hid (new_rowW w (.cells #[.int .i64 v] 3) _ rfl)
  have HN := Lib.hid (fun W hx hy hne => pnumber_any T 3 cs #[.int .i64 v] g w.heap.size 0 gd v 8 0 1000000000000 W hx hy hne h0 h1 h2 rfl)
  have HG := Lib.hid hgl; have HBL := Lib.hid hbl; have HNE := Lib.hid hne
  clear hx hy h0 h1 h2 hv hgl hbl hne
  unfold I64 at hw
  go_enter Tryz.func184, Tryz.ntmps184
  go_wp2_with fail
  refine (HN.out _ HX.out HM.out (by have := HG.out; omega)).mono ?_
  rintro e w1 ⟨rfl, hx1, hm1, ht1⟩
  have hy1 : w1.heap[b]? = some (.cells ds U (0, 0)) := (ht1.block b (block_lt HY.out) (by have := HBL.out; have := HNE.out; rintro (h | h) <;> omega)).trans HY.out
  have hf1 := fun j => frozen_of_row w1 b j _ _ hy1
  have d1 : w1.cell? ⟨b, o, none⟩ = some (.int .i64 v) := (cell_of_row w1 b o _ _ _ hy1).trans HV.out
  have cm := cell_of_row w1 w.heap.size 0 _ _ _ hm1
  have cm' : w1.cell? ⟨w.heap.size, 0, none⟩ = some (.int .i64 0) := cm
  have HX1 := Lib.hid hx1; have HY1 := Lib.hid hy1; have HT1 := Lib.hid ht1
  clear hx1 hm1 hy1 ht1 cm
  go_wp2
  go_end0
  refine ⟨rfl, (heap_setCell_other _ _ _ _ (Ne.symm HNE.out)).trans HX1.out, heap_setCell_same _ _ _ _ _ _ HY1.out, ?_⟩
  refine Turn.setCell ?_ (.inr rfl) _ _
  exact ((Turn.refl _ w).alloc _).after HT1.out (fun i hi h => by rcases h with h | h; exact .inl h; omega)

set_option maxHeartbeats 1000000 in
theorem pticket_any (T U : TypeId) (cs ds : Array Value) (g b o : Nat) (gd : Bool) (v : Int) (w : World) (hx : w.heap[g]? = some (.cells cs T (0, 0))) (hy : w.heap[b]? = some (.cells ds U (0, 0))) (hne : b ≠ g)
    (h0 : cs[0]? = some (.pointer none)) (h1 : cs[1]? = some (.pointer none)) (h2 : cs[2]? = some (.bool gd)) (hv : ds[o]? = some (.int .u64 v)) (hw : U64 v) :
    Calls Tryz.prog 112 #[.pointer (some ⟨g, 0, none⟩), .pointer (some ⟨b, o, none⟩)] w fun e w' => e = .returned (.tuple #[]) ∧
      w'.heap[g]? = some (.cells (cs.setIfInBounds 2 (.bool (gd && Tkt.numB v))) T (0, 0)) ∧ w'.heap[b]? = some (.cells (ds.setIfInBounds o (.int .u64 0)) U (0, 0)) ∧ Turn (fun k => k = g ∨ k = b) w w' := by
  have c0 : w.cell? ⟨g, 0, none⟩ = some (.pointer none) := (cell_of_row w g 0 _ _ _ hx).trans h0
  have c1 : w.cell? ⟨g, 1, none⟩ = some (.pointer none) := (cell_of_row w g 1 _ _ _ hx).trans h1
  have d0 : w.cell? ⟨b, o, none⟩ = some (.int .u64 v) := (cell_of_row w b o _ _ _ hy).trans hv
  have HW := Lib.hid (fun may => pweigh_any T cs g gd may w hx h2)
  have HY := Lib.hid hy; have HV := Lib.hid hv; have HB := Lib.hid (block_lt hy); have HNE := Lib.hid hne
  have HCK := Lib.hid (fun W => check_any v hw.1 hw.2 W)
  clear hx hy h0 h1 h2 hv hne
  have HQ : Hid (Tkt.numB v = decide (Num.check v = 0)) := Lib.hid rfl
  generalize Tkt.numB v = q at *
  generalize Num.check v = ck at *
  go_enter Tryz.func112, Tryz.ntmps112
  go_wp2_with fail
  refine (HCK.out _).mono ?_
  rintro e w1 ⟨rfl, rfl⟩
  go_wp2_with fail
  refine (HW.out _).mono ?_
  rintro e w1 ⟨rfl, hx1, ht1⟩
  have hy1 := (ht1.block _ HB.out HNE.out).trans HY.out; have hf1 := fun j => frozen_of_row w1 b j _ _ hy1; have d1 : w1.cell? ⟨b, o, none⟩ = some (.int .u64 v) := (cell_of_row w1 b o _ _ _ hy1).trans HV.out; have HX1 := Lib.hid hx1; have HY1 := Lib.hid hy1; have HT1 := Lib.hid ht1; clear hx1 hy1 ht1
  go_wp2
  go_end0
  rw [HQ.out]
  refine ⟨rfl, (heap_setCell_other _ _ _ _ (Ne.symm HNE.out)).trans ?_, heap_setCell_same _ _ _ _ _ _ HY1.out, (HT1.out.mono fun k _ hk => .inl hk).setCell (.inr rfl) _ _⟩
  have h := HX1.out
  first | exact h | simpa using h

/-- a coupon's flight, day and value at a place, weighed -/
def flyB (fl dy va : Int) : Bool := inB 1 9999 fl && inB 0 1000000 dy && inB 0 1000000000000 va
set_option maxHeartbeats 1000000 in
theorem pflight_any (T U : TypeId) (cs ds : Array Value) (g b o : Nat) (gd : Bool) (fl dy va : Int) (w : World) (hx : w.heap[g]? = some (.cells cs T (0, 0))) (hy : w.heap[b]? = some (.cells ds U (0, 0))) (hne : b ≠ g)
    (h0 : cs[0]? = some (.pointer none)) (h1 : cs[1]? = some (.pointer none)) (h2 : cs[2]? = some (.bool gd)) (hfl : ds[o]? = some (.int .i64 fl)) (hdy : ds[o + 1]? = some (.int .i64 dy)) (hva : ds[o + 2]? = some (.int .i64 va)) (hw : I64 va) :
    Calls Tryz.prog 116 #[.pointer (some ⟨g, 0, none⟩), .pointer (some ⟨b, o, none⟩)] w fun e w' => e = .returned (.tuple #[]) ∧
      w'.heap[g]? = some (.cells (cs.setIfInBounds 2 (.bool (gd && flyB fl dy va))) T (0, 0)) ∧ w'.heap[b]? = some (.cells (((ds.setIfInBounds o (.int .i64 0)).setIfInBounds (o + 1) (.int .i64 0)).setIfInBounds (o + 2) (.int .i64 0)) U (0, 0)) ∧ Turn (fun k => k = g ∨ k = b) w w' := by
  have l2 : 2 < cs.size := (Array.getElem?_eq_some_iff.1 h2).1
  have g1 : ∀ x : Value, (cs.setIfInBounds 2 x)[0]? = some (.pointer none) ∧ (cs.setIfInBounds 2 x)[1]? = some (.pointer none) ∧ (cs.setIfInBounds 2 x)[2]? = some x := fun x => by
    refine ⟨?_, ?_, ?_⟩
    · rw [Array.getElem?_setIfInBounds_ne (by decide)]; exact h0
    · rw [Array.getElem?_setIfInBounds_ne (by decide)]; exact h1
    · rw [Array.getElem?_setIfInBounds_self, if_pos l2]
  have k1 : ∀ x : Value, (ds.setIfInBounds o x)[o + 1]? = some (.int .i64 dy) := fun x => by rw [Array.getElem?_setIfInBounds_ne (by omega)]; exact hdy
  have k2 : ∀ x y : Value, ((ds.setIfInBounds o x).setIfInBounds (o + 1) y)[o + 2]? = some (.int .i64 va) := fun x y => by rw [Array.getElem?_setIfInBounds_ne (by omega), Array.getElem?_setIfInBounds_ne (by omega)]; exact hva
  have HA := Lib.hid (pnumber_any T U cs ds g b o gd fl 2 1 9999 w hx hy hne h0 h1 h2 hfl)
  have HB := Lib.hid (fun W hx hy => pday_any T U (cs.setIfInBounds 2 (.bool (gd && inB 1 9999 fl))) (ds.setIfInBounds o (.int .i64 0)) g b (o + 1) _ dy W hx hy hne (g1 _).1 (g1 _).2.1 (g1 _).2.2 (k1 _))
  have HC := Lib.hid (fun W hx hy => pmoney_any T U (cs.setIfInBounds 2 (.bool (gd && inB 1 9999 fl && inB 0 1000000 dy))) ((ds.setIfInBounds o (.int .i64 0)).setIfInBounds (o + 1) (.int .i64 0)) g b (o + 2) _ va W hx hy hne (g1 _).1 (g1 _).2.1 (g1 _).2.2 (k2 _ _) hw)
  clear hx hy hne h0 h1 h2 hfl hdy hva g1 k1 k2 l2
  go_enter Tryz.func116, Tryz.ntmps116
  go_wp2_with fail
  refine HA.out.mono ?_
  rintro e w1 ⟨rfl, hx1, hy1, ht1⟩
  have HX1 := Lib.hid hx1; have HY1 := Lib.hid hy1; have HT1 := Lib.hid ht1; clear hx1 hy1 ht1
  go_wp2_with fail
  refine (HB.out w1 HX1.out HY1.out).mono ?_
  rintro e w2 ⟨rfl, hx1, hy1, ht1⟩
  rw [Array.setIfInBounds_setIfInBounds] at hx1
  have HX2 := Lib.hid hx1; have HY2 := Lib.hid hy1; have HT2 := Lib.hid ht1; clear hx1 hy1 ht1
  go_wp2_with fail
  refine (HC.out w2 HX2.out HY2.out).mono ?_
  rintro e w3 ⟨rfl, hx1, hy1, ht1⟩
  rw [Array.setIfInBounds_setIfInBounds] at hx1
  have HX3 := Lib.hid hx1; have HY3 := Lib.hid hy1; have HT3 := Lib.hid ht1; clear hx1 hy1 ht1
  go_wp2
  go_end0
  refine ⟨rfl, ?_, HY3.out, (HT1.out.trans HT2.out).trans HT3.out⟩
  have h := HX3.out
  unfold flyB
  rw [show (gd && (inB 1 9999 fl && inB 0 1000000 dy && inB 0 1000000000000 va)) = (gd && inB 1 9999 fl && inB 0 1000000 dy && inB 0 1000000000000 va) from by cases gd <;> simp]
  exact h
end Go.Proofs.YtbmphlpmipkpcaaGreat
end
