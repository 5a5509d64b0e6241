/- Plain words for tickets: coupons, taxes, events; which tickets may be. Contracts of package number's leaf functions: Check, mayCarrier, maySerial, Make. Records in memory: more words. -/
import Derived.Test.YtbmphlpmipkpcaaGreatRnm1
import Derived.Test.YtbmphlpmipkpcaaGreatRnm2
import Derived.Test.YtbmphlpmipkpcaaGreatRows
import Derived.WalkKit
import Derived.WalkSpells
import Derived.WalkLawsBesides
import Derived.Deep.QuietTactic
import Derived.BigQuiet
import Derived.Lib.Hide

section
set_option linter.unusedVariables false
set_option linter.unusedSimpArgs false
namespace Go.Proofs.YtbmphlpmipkpcaaGreat
open Go.RowKit

structure Cpn where
  fl : Int
  dy : Int
  va : Int
  st : Int
  ho : Int
  nx : Int
structure Txx where
  cd : Int
  am : Int
structure Evt where
  dy : Int
  co : Int
  fr : Int
  to : Int
structure Tk where
  num : Int
  loc : ByteArray
  iss : Int
  cs : List Cpn
  ts : List Txx
  prev : Int
  org : Int
  fst : Int
  vou : Int
  posts : Int
  hs : List Evt

def Cpn.cells (c : Cpn) : List Value := [.int .i64 c.fl, .int .i64 c.dy, .int .i64 c.va, .int .i64 c.st, .int .i64 c.ho, .int .u64 c.nx]
def Txx.cells (x : Txx) : List Value := [.int .i64 x.cd, .int .i64 x.am]
def Evt.cells (x : Evt) : List Value := [.int .i64 x.dy, .int .i64 x.co, .int .i64 x.fr, .int .i64 x.to]
theorem Cpn.cells_length (c : Cpn) : c.cells.length = 6 := rfl
theorem Txx.cells_length (c : Txx) : c.cells.length = 2 := rfl
theorem Evt.cells_length (c : Evt) : c.cells.length = 4 := rfl
theorem Cpn.cells_one (c : Cpn) : ∀ u ∈ c.cells, u.oneCell' = true := by
  intro u hu; simp only [Cpn.cells, List.mem_cons, List.not_mem_nil, or_false] at hu; rcases hu with rfl | rfl | rfl | rfl | rfl | rfl <;> rfl
theorem Txx.cells_one (c : Txx) : ∀ u ∈ c.cells, u.oneCell' = true := by
  intro u hu; simp only [Txx.cells, List.mem_cons, List.not_mem_nil, or_false] at hu; rcases hu with rfl | rfl <;> rfl
theorem Evt.cells_one (c : Evt) : ∀ u ∈ c.cells, u.oneCell' = true := by
  intro u hu; simp only [Evt.cells, List.mem_cons, List.not_mem_nil, or_false] at hu; rcases hu with rfl | rfl | rfl | rfl <;> rfl
def I64 (n : Int) : Prop := -9223372036854775808 ≤ n ∧ n ≤ 9223372036854775807
def U64 (n : Int) : Prop := 0 ≤ n ∧ n ≤ 18446744073709551615
def Cpn.wf (c : Cpn) : Prop := I64 c.fl ∧ I64 c.dy ∧ I64 c.va ∧ I64 c.st ∧ I64 c.ho ∧ U64 c.nx
def Txx.wf (c : Txx) : Prop := I64 c.cd ∧ I64 c.am
def Evt.wf (c : Evt) : Prop := I64 c.dy ∧ I64 c.co ∧ I64 c.fr ∧ I64 c.to
structure Tk.wf (t : Tk) : Prop where
  num : U64 t.num
  loc : t.loc.size ≤ maxLen
  iss : I64 t.iss
  cs : ∀ c ∈ t.cs, c.wf
  ts : ∀ c ∈ t.ts, c.wf
  prev : U64 t.prev
  org : U64 t.org
  fst : U64 t.fst
  vou : I64 t.vou
  posts : I64 t.posts
  hs : ∀ c ∈ t.hs, c.wf

namespace Tkt
def dayB (n : Int) : Bool := decide (0 ≤ n) && decide (n ≤ 1000000)
def someB (n : Int) : Bool := decide (0 ≤ n) && decide (n ≤ 1000000000000)
def numB (n : Int) : Bool := decide (Num.check n = 0)
def othB (num n : Int) : Bool := numB n && !decide (n = num)
def holdB (num h : Int) : Bool := decide (101 ≤ h) && decide (h ≤ 1000) && !decide (h = Num.carr num + 1)
def withB (num s h : Int) : Bool := if s = 9 then holdB num h else if s = 5 then othB num h else decide (h = 0)
def stB (s : Int) : Bool := decide (1 ≤ s) && decide (s ≤ 9)
def cpnB (num : Int) (c : Cpn) : Bool := decide (1 ≤ c.fl) && decide (c.fl ≤ 9999) && dayB c.dy && someB c.va && stB c.st && (if c.st = 9 then holdB num c.ho else decide (c.ho = 0)) && (if c.st = 5 then othB num c.nx else decide (c.nx = 0))
/-- taxes from a code on -/
def taxB : Int → List Txx → Bool
  | _, [] => true
  | l, x :: r => decide (l ≤ x.cd) && decide (x.cd ≤ 99) && someB x.am && taxB (x.cd + 1) r
/-- what a status leads to -/
def bitsI (s : Int) : Int := if s = 1 then 996 else if s = 2 then 10 else if s = 3 then 20 else if s = 8 then 66 else if s = 9 then 18 else 0
def leadsB (a b : Int) : Bool := stB b && decide (bitsI a / 2 ^ b.toNat % 2 = 1)
def liveB (s : Int) : Bool := !decide (bitsI s = 0)
def lastB (s : Int) : Bool := stB s && decide (bitsI s = 0)
/-- what a history tells: what the coupons are now, its last day, what they were behind a day; none: a step is not as it should be -/
structure Told where
  now : List Int
  at_ : Int
  thn : List Int
def evOk (s : Told) (x : Evt) : Bool := decide (1 ≤ x.co) && decide (x.co ≤ s.now.length) && decide (s.at_ ≤ x.dy) && decide (x.dy ≤ 1000000) && decide (x.fr = s.now.getD (x.co.toNat - 1) 0) && leadsB x.fr x.to
def evDo (u : Int) (s : Told) (x : Evt) : Told := ⟨s.now.set (x.co.toNat - 1) x.to, x.dy, if x.dy ≤ u then s.thn.set (x.co.toNat - 1) x.to else s.thn⟩
def stepE (u : Int) (o : Option Told) (x : Evt) : Option Told := match o with | none => none | some s => if evOk s x = true then some (evDo u s x) else none
def told0 (n : Nat) (iss : Int) : Told := ⟨List.replicate n 1, iss, List.replicate n 1⟩
def toldE (u : Int) (n : Nat) (iss : Int) (hs : List Evt) : Option Told := hs.foldl (stepE u) (some (told0 n iss))
def thenL (u : Int) (t : Tk) : List Int := match toldE u t.cs.length t.iss t.hs with | some s => s.thn | none => []
def histB (u : Int) (t : Tk) : Bool := match toldE u t.cs.length t.iss t.hs with | some s => decide (s.now = t.cs.map (·.st)) | none => false
def headB (t : Tk) : Bool := numB t.num && Num.loc t.loc.data.toList && dayB t.iss && (if t.prev = 0 then decide (t.org = t.num) else othB t.num t.prev && othB t.num t.org) && numB t.fst && decide (0 ≤ t.vou) && decide (t.vou ≤ 1125899906842624) && decide (0 ≤ t.posts) && decide (t.posts ≤ 200)
def lensB (t : Tk) : Bool := decide (1 ≤ t.cs.length) && decide (t.cs.length ≤ 4) && decide (t.ts.length ≤ 4) && decide (t.hs.length ≤ 60)
def mayB (t : Tk) : Bool := headB t && lensB t && t.cs.all (cpnB t.num) && taxB 1 t.ts && histB 0 t

theorem evOk_now {s s' : Told} {x : Evt} (h1 : s.now = s'.now) (h2 : s.at_ = s'.at_) : evOk s x = evOk s' x := by unfold evOk; rw [h1, h2]
/-- only what was behind a day hangs on the day -/
theorem told_any (u u' : Int) (n : Nat) (iss : Int) (hs : List Evt) : (toldE u n iss hs).map (fun s => (s.now, s.at_)) = (toldE u' n iss hs).map fun s => (s.now, s.at_) := by
  have key : ∀ (hs : List Evt) (o o' : Option Told), (o.map fun s => (s.now, s.at_)) = (o'.map fun s => (s.now, s.at_)) → ((hs.foldl (stepE u) o).map fun s => (s.now, s.at_)) = ((hs.foldl (stepE u') o').map fun s => (s.now, s.at_)) := by
    intro hs
    induction hs with
    | nil => intro o o' h; exact h
    | cons x hs ih =>
      intro o o' h
      refine ih _ _ ?_
      cases o with
      | none => cases o' with
        | none => rfl
        | some s' => cases h
      | some s => cases o' with
        | none => cases h
        | some s' =>
          simp at h
          show (stepE u (some s) x).map _ = (stepE u' (some s') x).map _
          unfold stepE
          simp only
          rw [evOk_now (x := x) h.1 h.2]
          split
          · simp [evDo, h.1]
          · rfl
  exact key hs _ _ rfl
theorem histB_any (u u' : Int) (t : Tk) : histB u t = histB u' t := by
  have h := told_any u u' t.cs.length t.iss t.hs
  unfold histB
  revert h
  cases toldE u t.cs.length t.iss t.hs <;> cases toldE u' t.cs.length t.iss t.hs <;> intro h <;> simp at h ⊢
  rw [h.1]
theorem toldE_snoc (u : Int) (n : Nat) (iss : Int) (hs : List Evt) (x : Evt) : toldE u n iss (hs ++ [x]) = stepE u (toldE u n iss hs) x := by
  unfold toldE; rw [List.foldl_append]; rfl
theorem stepE_none (u : Int) (hs : List Evt) : hs.foldl (stepE u) none = none := by
  induction hs with
  | nil => rfl
  | cons x hs ih => exact ih
theorem toldE_none {u : Int} {n : Nat} {iss : Int} {hs : List Evt} (k : Nat) (h : toldE u n iss (hs.take k) = none) : toldE u n iss hs = none := by
  unfold toldE at h ⊢
  conv => lhs; rw [← List.take_append_drop k hs]
  rw [List.foldl_append, h, stepE_none]
theorem stepE_len {u : Int} {o : Option Told} {x : Evt} {s' : Told} (h : stepE u o x = some s') : ∃ s, o = some s ∧ evOk s x = true ∧ s' = evDo u s x := by
  cases o with
  | none => cases h
  | some s =>
    unfold stepE at h
    simp only at h
    split at h
    · rename_i hk
      injection h with h
      exact ⟨s, rfl, hk, h.symm⟩
    · cases h
theorem toldE_len {u : Int} {n : Nat} {iss : Int} (hs : List Evt) {s : Told} (h : toldE u n iss hs = some s) : s.now.length = n ∧ s.thn.length = n ∧ iss ≤ s.at_ := by
  have key : ∀ (l : List Evt) (o : Option Told), (∀ s, o = some s → s.now.length = n ∧ s.thn.length = n ∧ iss ≤ s.at_) → ∀ s, l.foldl (stepE u) o = some s → s.now.length = n ∧ s.thn.length = n ∧ iss ≤ s.at_ := by
    intro l
    induction l with
    | nil => intro o ho s hs; exact ho s hs
    | cons x l ih =>
      intro o ho
      refine ih _ fun s hs => ?_
      obtain ⟨s0, rfl, hk, rfl⟩ := stepE_len hs
      obtain ⟨h1, h2, h3⟩ := ho s0 rfl
      have h4 : s0.at_ ≤ x.dy := by unfold evOk at hk; simp only [Bool.and_eq_true, decide_eq_true_eq] at hk; omega
      refine ⟨by simp [evDo, h1], ?_, by simp only [evDo]; omega⟩
      simp only [evDo]; split <;> simp [h2]
  exact key hs _ (fun s e => by injection e with e; subst e; simp [told0]) s h
end Tkt
end Go.Proofs.YtbmphlpmipkpcaaGreat
end

section
namespace Go.Proofs.YtbmphlpmipkpcaaGreat
open Go.RowKit

theorem ret_int {k : IntKind} {a b : Int} (h : a = b) : Ending.returned (.int k a) = .returned (.int k b) := by rw [h]
theorem ret_bool {a b : Bool} (h : a = b) : Ending.returned (.bool a) = .returned (.bool b) := by rw [h]

set_option maxHeartbeats 400000 in
theorem mayCarrier_any (c : Int) (w : World) :
    Calls Tryz.prog 220 #[.int .i64 c] w fun e w' => e = .returned (.bool (Num.mayC c)) ∧ w = w' := by
  go_enter Tryz.func220, Tryz.ntmps220
  go_wp2
  all_goals
    go_ret
    refine ⟨ret_bool ?_, rfl⟩
    unfold Num.mayC
    simp; omega

set_option maxHeartbeats 400000 in
theorem maySerial_any (c : Int) (w : World) :
    Calls Tryz.prog 221 #[.int .i64 c] w fun e w' => e = .returned (.bool (Num.mayS c)) ∧ w = w' := by
  go_enter Tryz.func221, Tryz.ntmps221
  go_wp2
  all_goals
    go_ret
    refine ⟨ret_bool ?_, rfl⟩
    unfold Num.mayS
    simp; omega

set_option maxHeartbeats 400000 in
theorem check_any (n : Int) (h0 : 0 ≤ n) (hb : n ≤ 18446744073709551615) (w : World) :
    Calls Tryz.prog 168 #[.int .u64 n] w fun e w' => e = .returned (.int .i64 (Num.check n)) ∧ w = w' := by
  go_enter Tryz.func168, Tryz.ntmps168
  go_wp2
  all_goals
    go_ret
    refine ⟨ret_int ?_, rfl⟩
    unfold Num.check
    simp_all
    try omega

theorem ret_pair {k k' : IntKind} {a b c d : Int} (h : a = b) (h' : c = d) : Ending.returned (.tuple #[.int k a, .int k' c]) = .returned (.tuple #[.int k b, .int k' d]) := by rw [h, h']

set_option maxHeartbeats 400000 in
theorem make_any (c s : Int) (w : World) :
    Calls Tryz.prog 216 #[.int .i64 c, .int .i64 s] w fun e w' => e = .returned (.tuple #[.int .u64 (Num.mkN c s), .int .i64 (Num.mkE c s)]) ∧ w = w' := by
  by_cases h : (Num.mayC c && Num.mayS s) = true
  · have h1 : Num.mkN c s = Num.make c s := by unfold Num.mkN; rw [if_pos h]
    have h2 : Num.mkE c s = 0 := by unfold Num.mkE; rw [if_pos h]
    rw [h1, h2]; clear h1 h2
    rw [Bool.and_eq_true] at h
    obtain ⟨hc, hs⟩ := h
    have bc := Num.mayC_iff.1 hc
    have bs := Num.mayS_iff.1 hs
    go_enter Tryz.func216, Tryz.ntmps216
    go_wp2_with (first | (go_at_call 220; refine (mayCarrier_any _ _).mono ?_; rintro e w' ⟨rfl, rfl⟩) | (go_at_call 221; refine (maySerial_any _ _).mono ?_; rintro e w' ⟨rfl, rfl⟩))
    go_ret2
    refine ⟨ret_pair ?_ rfl, rfl⟩
    unfold Num.make Num.body
    omega
  · have h1 : Num.mkN c s = 0 := by unfold Num.mkN; rw [if_neg h]
    have h2 : Num.mkE c s = 2 := by unfold Num.mkE; rw [if_neg h]
    rw [h1, h2]; clear h1 h2
    have H := Lib.hid h; clear h
    go_enter Tryz.func216, Tryz.ntmps216
    go_wp2_with (first | (go_at_call 220; refine (mayCarrier_any _ _).mono ?_; rintro e w' ⟨rfl, rfl⟩) | (go_at_call 221; refine (maySerial_any _ _).mono ?_; rintro e w' ⟨rfl, rfl⟩))
    · go_ret2
      exact ⟨rfl, rfl⟩
    · exact absurd (by simp_all) H.out
    · go_ret2
      exact ⟨rfl, rfl⟩

set_option maxHeartbeats 400000 in
theorem parts_any (n : Int) (h0 : 0 ≤ n) (hb : n ≤ 18446744073709551615) (w : World) :
    Calls Tryz.prog 222 #[.int .u64 n] w fun e w' => e = .returned (.tuple #[.int .i64 (Num.carr n), .int .i64 (Num.seri n)]) ∧ w = w' := by
  go_enter Tryz.func222, Tryz.ntmps222
  go_wp2_with (first | (go_at_call 168; refine (check_any _ (by omega) (by omega) _).mono ?_; rintro e w' ⟨rfl, rfl⟩))
  all_goals
    go_ret2
    refine ⟨ret_pair ?_ ?_, rfl⟩
  all_goals
    first | unfold Num.carr | unfold Num.seri
    simp_all

set_option maxHeartbeats 400000 in
theorem carrier_any (n : Int) (h0 : 0 ≤ n) (hb : n ≤ 18446744073709551615) (w : World) :
    Calls Tryz.prog 217 #[.int .u64 n] w fun e w' => e = .returned (.int .i64 (Num.carr n)) ∧ w = w' := by
  go_enter Tryz.func217, Tryz.ntmps217
  go_wp2_with (first | (go_at_call 222; refine (parts_any _ h0 hb _).mono ?_; rintro e w' ⟨rfl, rfl⟩))
  go_ret
  exact ⟨rfl, rfl⟩

end Go.Proofs.YtbmphlpmipkpcaaGreat
end

section
set_option linter.unusedVariables false
set_option linter.unusedSimpArgs false
namespace Go.Proofs.YtbmphlpmipkpcaaGreat
open Go.RowKit
variable {α : Type} {enc : α → List Value} {n : Nat}
theorem row_one {w : World} {g : Nat} {e : TypeId} {x : α} {cs : Array Value} (hh : w.heap[g]? = some (.cells cs e (0, 0))) (hc : cs = (enc x).toArray) (hn : ∀ x, (enc x).length = n) (hp : 0 < n) : LS enc n w (.slice (some ⟨g, 0, none⟩) 1 1) [x] := by
  subst hc
  have h : RowL enc n w g [x] := RowL.of_block hh hn (by simp [hn]) (by rw [show [x].length * n = n from Nat.one_mul n]; simp [encL, ← hn x])
  exact h.slice hn hp (Nat.le_refl _) (by simp [maxLen])
end Go.Proofs.YtbmphlpmipkpcaaGreat
end
