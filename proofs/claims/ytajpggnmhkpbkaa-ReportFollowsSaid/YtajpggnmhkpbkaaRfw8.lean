/- From a walk that ends 'true' and leaves what was there as it was (Below) to a law's row: the arguments read again as they did. A region that draws its order, whose operations read old memory and whose callees only make memory: one walk of the lexical order serves every order, in the class of worlds that agree with the first one below its size. Postings in memory: how a slice of postings that came in reads, as a list of records of ten numbers. -/
import Derived.Test.YtajpggnmhkpbkaaRows
import Derived.WalkKit
import Derived.ProofKit
import Derived.OpenShut
import Derived.ShutString
import Derived.ChangeOld
import Derived.Below
import Derived.Deep.QuietTactic
import Derived.BigQuiet
import Derived.Test.YtajpggnmhkpbkaaRfw7
import Derived.Deep.Slices
import Derived.Deep.Strs

section
namespace Go.Proofs.Ytajpggnmhkpbkaa
open Go.ChangeShapes Go.WideShapes Go.ChangeAt Go.RowKit

theorem own : ownKnob Try.prog.godebug = none := by kernel_rfl
theorem laidOut : laidOutB Try.prog = true := by kernel_rfl

theorem trodAll_below {H : Type} {enc : TypeId × Value → H} {P : Program} (hl : laidOutB P = true) {W W' : World} (hb : Below W.heap.size W W') :
    ∀ (ts : List TypeId) (vs : List Value) (ds : List (DataW H)) (ps : List MemPlace), (∀ t ∈ ts, P.readableRec t = true ∧ t < P.types.size) →
      DataW.TrodAll enc P W 0 (fun _ => true) true ts vs ds ps → DataW.TrodAll enc P W' 0 (fun b => decide (b < W.heap.size)) true ts vs ds ps := by
  intro ts
  induction ts with
  | nil =>
    intro vs ds ps _ h
    obtain ⟨rfl, rfl, rfl⟩ := trodAll_nil h
    exact rfl
  | cons t ts ih =>
    intro vs ds ps hr h
    obtain ⟨v, vs', d, ds', p, q, rfl, rfl, rfl, h0, h1⟩ := trodAll_cons h
    have lt0 : ∀ x ∈ p, x.block < W.heap.size := by obtain ⟨m, hm⟩ := h0; exact DataW.trod_lt m _ _ _ hm
    exact ⟨p, q, Below.trod hl (hr t (by simp)).1 (hr t (by simp)).2 h0 hb lt0, ih vs' ds' q (fun t' ht' => hr t' (by simp [ht'])) h1, rfl⟩

/-- All a law's row asks behind the call, out of 'Below' alone. -/
theorem post_law {H : Type} {enc : TypeId × Value → H} {P : Program} {f : Func} {s : ChangeSpec} {W W' : World} {args : Array Value} {ds gs : List (DataW H)} {before : List MemPlace} {tb : TypeId}
    (hl : laidOutB P = true) (hv : s.vars = []) (hW : DataW.Whole enc P f.params.toList s.vars false W args.toList ds gs before)
    (hfn : (s.fn H (ds ++ [])).results = [.lit (.bool true)] ∧ (s.fn H (ds ++ [])).args = ds ∧ (s.fn H (ds ++ [])).vars = [])
    (hr : f.params.toList.all (fun t => P.readableRec t && decide (t < P.types.size)) = true) (hb : Below W.heap.size W W')
    (htb : P.underlying tb = some .bool) (hres : f.resultTypes = #[tb]) :
    s.post enc P f false true false false W args (.bool true) W' := by
  have hW' := hW
  obtain ⟨p, q, hA, hV, rfl, hfz, hnd⟩ := hW
  rw [hv] at hV
  obtain ⟨rfl, rfl⟩ := trodVars_none hV
  refine ⟨ds, [], _, [], p, [], hW', ?_, ?_, ?_, hb.frame _, fun h => by cases h⟩
  · rw [hfn.1, hres]
    exact trodAll_mk1 (shut_bool htb _)
  · rw [hfn.2.1]
    refine trodAll_below hl hb _ _ _ _ ?_ hA
    intro t ht
    have := List.all_eq_true.1 hr t ht
    simpa using this
  · rw [hv, hfn.2.2]
    exact rfl
end Go.Proofs.Ytajpggnmhkpbkaa
end

section
namespace Go.Proofs.Ytajpggnmhkpbkaa
open Go.RowKit

structure Later (W : World) where
  val : World
  prop : Below W.heap.size W val

instance Later.nonempty (W : World) : Nonempty (Later W) := ⟨⟨W, Below.refl _ _⟩⟩

theorem Later.of {W w : World} (h : Below W.heap.size W w) : ∃ u : Later W, w = u.val := ⟨⟨w, h⟩, rfl⟩
theorem Later.cell {W : World} (u : Later W) (b o : Nat) (h : b < W.heap.size) : u.val.cell? ⟨b, o, none⟩ = W.cell? ⟨b, o, none⟩ := u.prop.cell (p := ⟨b, o, none⟩) h
theorem Later.frozen {W : World} (u : Later W) (b o : Nat) (h : b < W.heap.size) : u.val.frozen? ⟨b, o, none⟩ = W.frozen? ⟨b, o, none⟩ := u.prop.frozen (p := ⟨b, o, none⟩) h

theorem wp_region_later {P : Program} {id : Nat} {Q : Exit → Act → World → Prop} {a : Act} {W : World} {l : List Oper} (hm : P.follows .mixedOrders = true) (hB : Region.lexB .any l.toArray = true)
    (h : wpQuiet P l.toArray (fun w' => ∃ u : Later W, w' = u.val) (fun a' => ∀ w', (∃ u : Later W, w' = u.val) → Q .normal a' w') l a) : (Code.region id l.toArray true).wp P Q a W :=
  wp_region_quiet (C := fun w' => ∃ u : Later W, w' = u.val) hm hB (Later.of (Below.refl W.heap.size W).drew) (by simpa using h)

/-- a contract that only makes memory, met in such a region -/
theorem later_call {P : Program} {f : FuncId} {args : Array Value} {W : World} {u : Later W} {v : Value}
    (h : Calls P f args u.val fun e w' => e = .returned v ∧ Below u.val.heap.size u.val w') : Calls P f args u.val fun e w'' => e = .returned v ∧ ∃ m : Later W, w'' = m.val :=
  h.mono fun _ _ ⟨he, hb⟩ => ⟨he, Later.of (u.prop.trans (hb.mono u.prop.size))⟩
theorem later_same {P : Program} {f : FuncId} {args : Array Value} {W : World} {u : Later W} {v : Value}
    (h : Calls P f args u.val fun e w' => e = .returned v ∧ u.val = w') : Calls P f args u.val fun e w'' => e = .returned v ∧ ∃ m : Later W, w'' = m.val :=
  h.mono fun _ _ ⟨he, hb⟩ => ⟨he, u, hb.symm⟩
theorem later_drew {P : Program} {f : FuncId} {args : Array Value} {W : World} {u : Later W} {v : Value}
    (h : Calls P f args u.val fun e w' => e = .returned v ∧ ∃ n, w' = u.val.drewN n) : Calls P f args u.val fun e w'' => e = .returned v ∧ ∃ m : Later W, w'' = m.val :=
  h.mono fun _ _ ⟨he, n, hb⟩ => ⟨he, Later.of (by rw [hb]; exact u.prop.trans ⟨rfl, rfl, rfl, Nat.le_refl _, fun _ _ => rfl⟩)⟩
end Go.Proofs.Ytajpggnmhkpbkaa
end

section
set_option linter.unusedVariables false
set_option linter.unusedSimpArgs false
namespace Go.Proofs.Ytajpggnmhkpbkaa
open Go.ChangeShapes Go.WideShapes Go.ChangeAt Go.RowKit Go.Deep

structure Pst where
  d : Int
  t : Int
  s : Int
  k : Int
  a0 : Int
  a1 : Int
  a2 : Int
  a3 : Int
  a4 : Int
  a5 : Int

def Pst.cells (p : Pst) : List Value := [.int .i64 p.d, .int .u64 p.t, .int .i64 p.s, .int .i64 p.k, .int .i64 p.a0, .int .i64 p.a1, .int .i64 p.a2, .int .i64 p.a3, .int .i64 p.a4, .int .i64 p.a5]
def Pst.am (p : Pst) : List Int := [p.a0, p.a1, p.a2, p.a3, p.a4, p.a5]
def Pst.may (p : Pst) : Bool := Post.may p.d p.t p.s p.k p.am
def Pst.wf (p : Pst) : Prop := (Lit.int .i64 p.d).wf = true ∧ (Lit.int .u64 p.t).wf = true ∧ (Lit.int .i64 p.s).wf = true ∧ (Lit.int .i64 p.k).wf = true ∧ (Lit.int .i64 p.a0).wf = true ∧ (Lit.int .i64 p.a1).wf = true ∧ (Lit.int .i64 p.a2).wf = true ∧ (Lit.int .i64 p.a3).wf = true ∧ (Lit.int .i64 p.a4).wf = true ∧ (Lit.int .i64 p.a5).wf = true

/-- ten cells in a row at a place hold a posting -/
def PAt (w : World) (b o : Nat) (x : Pst) : Prop :=
  w.cell? ⟨b, o, none⟩ = some (.int .i64 x.d) ∧ w.cell? ⟨b, o + 1, none⟩ = some (.int .u64 x.t) ∧ w.cell? ⟨b, o + 2, none⟩ = some (.int .i64 x.s) ∧ w.cell? ⟨b, o + 3, none⟩ = some (.int .i64 x.k) ∧
  w.cell? ⟨b, o + 4, none⟩ = some (.int .i64 x.a0) ∧ w.cell? ⟨b, o + 5, none⟩ = some (.int .i64 x.a1) ∧ w.cell? ⟨b, o + 6, none⟩ = some (.int .i64 x.a2) ∧ w.cell? ⟨b, o + 7, none⟩ = some (.int .i64 x.a3) ∧
  w.cell? ⟨b, o + 8, none⟩ = some (.int .i64 x.a4) ∧ w.cell? ⟨b, o + 9, none⟩ = some (.int .i64 x.a5)

/-- the value is a slice of the postings l -/
def PS (w : World) (v : Value) (l : List Pst) : Prop :=
  ∃ (p : Option Addr) (cap : Nat), v = .slice p l.length cap ∧ l.length ≤ cap ∧ cap ≤ maxLen ∧ (∀ x ∈ l, x.wf) ∧
    (l ≠ [] → ∃ b o, p = some ⟨b, o, none⟩ ∧ b < w.heap.size ∧ ∀ i x, l[i]? = some x → PAt w b (o + i * 10) x)

theorem PAt.of_cells {w w' : World} {b o : Nat} {x : Pst} (h : PAt w b o x) (hk : ∀ j, w'.cell? ⟨b, j, none⟩ = w.cell? ⟨b, j, none⟩) : PAt w' b o x := by
  unfold PAt; simp only [hk]; exact h
theorem PS.below {w w' : World} {v : Value} {l : List Pst} (h : PS w v l) (hb : Below w.heap.size w w') : PS w' v l := by
  obtain ⟨p, cap, h1, h2, h3, h4, h5⟩ := h
  refine ⟨p, cap, h1, h2, h3, h4, fun hl => ?_⟩
  obtain ⟨b, o, e, hlt, hc⟩ := h5 hl
  exact ⟨b, o, e, Nat.lt_of_lt_of_le hlt hb.size, fun i x hx => (hc i x hx).of_cells fun j => hb.cell (p := ⟨b, j, none⟩) hlt⟩

theorem postCells : Try.prog.cellsOf 68 = 10 := by kernel_rfl

section
variable {H : Type} {enc : TypeId × Value → H} {W : World} {base : Nat} {spare : Nat → Bool} {held : Bool}
theorem cell_block {w : World} {a : Addr} {v : Value} (h : w.cell? a = some v) : a.block < w.heap.size ∧ a.spot = none := by
  unfold World.cell? at h
  split at h
  · rename_i c e f hh
    refine ⟨?_, ?_⟩
    · rcases Nat.lt_or_ge a.block w.heap.size with h1 | h1
      · exact h1
      · rw [Array.getElem?_eq_none h1] at hh; cases hh
    · split at h
      · cases h
      · rename_i hn; cases hs : a.spot with
        | none => rfl
        | some z => simp [hs] at hn
  · cases h
theorem wide_cells {w : World} {a : Addr} {cs : List Value} {n : Nat} (hn : cs.length = n) (h : ∀ j, j < n → w.cell? (a.add j) = cs[j]?) (h0 : 0 < n) :
    ∃ b o, a = ⟨b, o, none⟩ ∧ b < w.heap.size ∧ ∀ j, j < n → w.cell? ⟨b, o + j, none⟩ = cs[j]? := by
  have e0 := h 0 h0
  rw [List.getElem?_eq_getElem (by omega)] at e0
  have hb := cell_block e0
  obtain ⟨b, o, s⟩ := a
  obtain ⟨h1, h2⟩ := hb
  have h2' : s = none := by simpa [Addr.add] using h2
  subst h2'
  refine ⟨b, o, rfl, by simpa [Addr.add] using h1, fun j hj => ?_⟩
  have := h j hj
  rw [Go.WideShapes.add_plain] at this
  exact this

set_option maxRecDepth 10000 in
theorem open_post {n : Nat} {cs : List Value} {x : DataW H × List MemPlace} (h : DataW.trod enc Try.prog W base spare held n 68 cs = some x) : ∃ p : Pst, cs = p.cells ∧ p.wf := by
  obtain ⟨xs, m, _, hx, hl, hxl, hf⟩ := DataW.trod_struct Try.underlying68 h
  rw [postCells] at hl
  match cs, hl with
  | [c0, c1, c2, c3, c4, c5, c6, c7, c8, c9], _ =>
    have g : ∀ i, i < 10 → ∃ y, xs[i]? = some y := fun i hi => ⟨_, List.getElem?_eq_getElem (by simp at hxl; omega)⟩
    obtain ⟨y0, e0⟩ := g 0 (by omega)
    obtain ⟨y1, e1⟩ := g 1 (by omega)
    obtain ⟨y2, e2⟩ := g 2 (by omega)
    obtain ⟨y3, e3⟩ := g 3 (by omega)
    obtain ⟨y4, e4⟩ := g 4 (by omega)
    obtain ⟨y5, e5⟩ := g 5 (by omega)
    obtain ⟨y6, e6⟩ := g 6 (by omega)
    obtain ⟨y7, e7⟩ := g 7 (by omega)
    obtain ⟨y8, e8⟩ := g 8 (by omega)
    obtain ⟨y9, e9⟩ := g 9 (by omega)
    obtain ⟨z0, f0, -, w0⟩ := DataW.trod_int (k := .i64) Try.underlying3 ((hf 0 _ rfl).trans e0)
    obtain ⟨z1, f1, -, w1⟩ := DataW.trod_int (k := .u64) Try.underlying24 ((hf 1 _ rfl).trans e1)
    obtain ⟨z2, f2, -, w2⟩ := DataW.trod_int (k := .i64) Try.underlying3 ((hf 2 _ rfl).trans e2)
    obtain ⟨z3, f3, -, w3⟩ := DataW.trod_int (k := .i64) Try.underlying66 ((hf 3 _ rfl).trans e3)
    obtain ⟨z4, f4, -, w4⟩ := DataW.trod_int (k := .i64) Try.underlying2 ((hf 4 _ rfl).trans e4)
    obtain ⟨z5, f5, -, w5⟩ := DataW.trod_int (k := .i64) Try.underlying2 ((hf 5 _ rfl).trans e5)
    obtain ⟨z6, f6, -, w6⟩ := DataW.trod_int (k := .i64) Try.underlying2 ((hf 6 _ rfl).trans e6)
    obtain ⟨z7, f7, -, w7⟩ := DataW.trod_int (k := .i64) Try.underlying2 ((hf 7 _ rfl).trans e7)
    obtain ⟨z8, f8, -, w8⟩ := DataW.trod_int (k := .i64) Try.underlying2 ((hf 8 _ rfl).trans e8)
    obtain ⟨z9, f9, -, w9⟩ := DataW.trod_int (k := .i64) Try.underlying2 ((hf 9 _ rfl).trans e9)
    have c1i : Try.prog.cellsOf 3 = 1 := by kernel_rfl
    have c1u : Try.prog.cellsOf 24 = 1 := by kernel_rfl
    have c1k : Try.prog.cellsOf 66 = 1 := by kernel_rfl
    have c1l : Try.prog.cellsOf 2 = 1 := by kernel_rfl
    simp [c1i, c1u, c1k, c1l] at f0 f1 f2 f3 f4 f5 f6 f7 f8 f9
    subst f0 f1 f2 f3 f4 f5 f6 f7 f8 f9
    exact ⟨⟨z0, z1, z2, z3, z4, z5, z6, z7, z8, z9⟩, rfl, w0, w1, w2, w3, w4, w5, w6, w7, w8, w9⟩

set_option maxRecDepth 10000 in
theorem open_posts {v : Value} {r : Reach} {d : DataW H} {ps : List MemPlace} (hv : Value.okWide Try.prog W r base 38 v)
    (h : DataW.Trod enc Try.prog W 0 (fun _ => true) held 38 v d ps) : ∃ l : List Pst, PS W v l := by
  have hcs : v.cells = #[v] := by
    simp only [Value.okWide, Try.underlying38] at hv
    cases v <;> first | rfl | simp [Cell.okWide, Cell.ok] at hv
  obtain ⟨fuel, hf⟩ := h
  rw [hcs] at hf
  rcases open_slice Try.underlying38 hf with ⟨h0, _⟩ | ⟨a, len, cap, m, n, D, Pl, h0, hb, hl, hm, hmm, hx, hi⟩
  · refine ⟨[], none, 0, by injection h0, Nat.le_refl _, Nat.zero_le _, fun x hx => absurd hx (by simp), fun h => absurd rfl h⟩
  · simp only [ite_true] at hmm
    subst hmm
    have key : ∀ i, i < len → ∃ p : Pst, p.wf ∧ ∀ j, j < 10 → W.cell? ((a.add (i * 10)).add j) = p.cells[j]? := by
      intro i hil
      obtain ⟨cs', h1, h2⟩ := hi i (by omega)
      obtain ⟨p, rfl, hw⟩ := open_post h2
      rw [postCells] at h1
      obtain ⟨_, _, hcell⟩ := World.cells?_some h1
      exact ⟨p, hw, hcell⟩
    have : Inhabited Pst := ⟨⟨0, 0, 0, 0, 0, 0, 0, 0, 0, 0⟩⟩
    obtain ⟨f, hf⟩ := choose_lt key
    refine ⟨(List.range len).map f, some a, m, by injection h0 with h0 _; rw [h0]; simp, by simpa using hl, hm, ?_, ?_⟩
    · intro x hx
      obtain ⟨i, hi, rfl⟩ := List.mem_map.1 hx
      exact (hf i (List.mem_range.1 hi)).1
    · intro hne
      have hpos : 0 < len := by
        rcases Nat.eq_zero_or_pos len with h | h
        · subst h; simp at hne
        · exact h
      obtain ⟨b, o, he, hlt, _⟩ := wide_cells (n := 10) (cs := (f 0).cells) rfl (hf 0 hpos).2 (by omega)
      rw [Nat.zero_mul] at he
      have ha : a = ⟨b, o, none⟩ := by simpa [Addr.add] using he
      subst ha
      refine ⟨b, o, rfl, hlt, fun i x hx => ?_⟩
      rw [List.getElem?_map] at hx
      rcases Nat.lt_or_ge i len with hil | hil
      · rw [List.getElem?_range hil] at hx
        injection hx with hx
        subst hx
        have hg := (hf i hil).2
        rw [Go.WideShapes.add_plain] at hg
        have hg' : ∀ j, j < 10 → W.cell? ⟨b, o + i * 10 + j, none⟩ = (f i).cells[j]? := fun j hj => by have := hg j hj; rwa [Go.WideShapes.add_plain] at this
        exact ⟨hg' 0 (by omega), hg' 1 (by omega), hg' 2 (by omega), hg' 3 (by omega), hg' 4 (by omega), hg' 5 (by omega), hg' 6 (by omega), hg' 7 (by omega), hg' 8 (by omega), hg' 9 (by omega)⟩
      · rw [List.getElem?_eq_none (by simpa using hil)] at hx
        cases hx

set_option maxRecDepth 10000 in
theorem open_posts' {v : Value} {r : Reach} {d : DataW H} {ps : List MemPlace} (hv : Value.okWide Try.prog W r base 38 v)
    (h : DataW.Trod enc Try.prog W 0 (fun _ => true) held 38 v d ps) : ∃ (l : List Pst) (p : Option Addr) (n cap : Nat), v = .slice p n cap ∧ n = l.length ∧ PS W (.slice p n cap) l := by
  obtain ⟨l, p, cap, rfl, hl⟩ := open_posts hv h
  exact ⟨l, p, l.length, cap, rfl, rfl, p, cap, rfl, hl⟩
end
end Go.Proofs.Ytajpggnmhkpbkaa
end
