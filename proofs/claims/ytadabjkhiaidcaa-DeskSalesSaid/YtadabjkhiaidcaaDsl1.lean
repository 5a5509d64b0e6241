/- A region that draws its order, whose operations read old memory and whose callees only make memory: one walk of the lexical order serves every order, in the class of worlds that agree with the first one below its size. From a walk that ends 'true' and leaves what was there as it was (Below) to a law's row: the arguments read again as they did. Words for memory: a slice of bytes that reads as a list; append of bytes; what a call that writes only blocks of some types keeps. -/
import Derived.Deep.QuietTactic
import Derived.BigQuiet
import Derived.Below
import Derived.Test.YtadabjkhiaidcaaRows
import Derived.WalkKit
import Derived.ProofKit
import Derived.OpenShut
import Derived.ShutString
import Derived.ChangeOld
import Derived.WalkSpells
import Derived.WalkLawsBesides
import Derived.Lib.Hide
import Derived.Lib.SliceRun
import Derived.Lib.AppendZeros
import Derived.Laws.BytesArg
import Derived.Laws.IdiomStrings
import Derived.Laws.Rows
import Derived.Maps.AppendAt
import Derived.OwnWalk
import Derived.Deep.Slices

section
namespace Go.Proofs.Ytadabjkhiaidcaa
open Go.RowKit

structure Later (W : World) where
  val : World
  prop : Below W.heap.size W val

instance Later.nonempty (W : World) : Nonempty (Later W) := ⟨⟨W, Below.refl _ _⟩⟩

theorem Later.of {W w : World} (h : Below W.heap.size W w) : ∃ u : Later W, w = u.val := ⟨⟨w, h⟩, rfl⟩
theorem Later.cell {W : World} (u : Later W) (b o : Nat) (h : b < W.heap.size) : u.val.cell? ⟨b, o, none⟩ = W.cell? ⟨b, o, none⟩ := u.prop.cell (p := ⟨b, o, none⟩) h
theorem Later.frozen {W : World} (u : Later W) (b o : Nat) (h : b < W.heap.size) : u.val.frozen? ⟨b, o, none⟩ = W.frozen? ⟨b, o, none⟩ := u.prop.frozen (p := ⟨b, o, none⟩) h

theorem wp_region_later {P : Program} {id : Nat} {Q : Exit → Act → World → Prop} {a : Act} {W : World} {l : List Oper} (hm : P.follows .mixedOrders = true) (hB : Region.lexB .any l.toArray = true)
    (h : wpQuiet P l.toArray (fun w' => ∃ u : Later W, w' = u.val) (fun a' => ∀ w', (∃ u : Later W, w' = u.val) → Q .normal a' w') l a) : (Code.region id l.toArray true).wp P Q a W :=
  wp_region_quiet (C := fun w' => ∃ u : Later W, w' = u.val) hm hB (Later.of (Below.refl W.heap.size W).drew) (by simpa using h)

/-- a contract that only makes memory, met in such a region -/
theorem later_call {P : Program} {f : FuncId} {args : Array Value} {W : World} {u : Later W} {v : Value}
    (h : Calls P f args u.val fun e w' => e = .returned v ∧ Below u.val.heap.size u.val w') : Calls P f args u.val fun e w'' => e = .returned v ∧ ∃ m : Later W, w'' = m.val :=
  h.mono fun _ _ ⟨he, hb⟩ => ⟨he, Later.of (u.prop.trans (hb.mono u.prop.size))⟩
theorem later_same {P : Program} {f : FuncId} {args : Array Value} {W : World} {u : Later W} {v : Value}
    (h : Calls P f args u.val fun e w' => e = .returned v ∧ u.val = w') : Calls P f args u.val fun e w'' => e = .returned v ∧ ∃ m : Later W, w'' = m.val :=
  h.mono fun _ _ ⟨he, hb⟩ => ⟨he, u, hb.symm⟩
theorem later_drew {P : Program} {f : FuncId} {args : Array Value} {W : World} {u : Later W} {v : Value}
    (h : Calls P f args u.val fun e w' => e = .returned v ∧ ∃ n, w' = u.val.drewN n) : Calls P f args u.val fun e w'' => e = .returned v ∧ ∃ m : Later W, w'' = m.val :=
  h.mono fun _ _ ⟨he, n, hb⟩ => ⟨he, Later.of (by rw [hb]; exact u.prop.trans ⟨rfl, rfl, rfl, Nat.le_refl _, fun _ _ => rfl⟩)⟩
end Go.Proofs.Ytadabjkhiaidcaa
end

section
namespace Go.Proofs.Ytadabjkhiaidcaa
open Go.ChangeShapes Go.WideShapes Go.ChangeAt Go.RowKit

theorem own : ownKnob Try.prog.godebug = none := by kernel_rfl
theorem laidOut : laidOutB Try.prog = true := by kernel_rfl

theorem trodAll_below {H : Type} {enc : TypeId × Value → H} {P : Program} (hl : laidOutB P = true) {W W' : World} (hb : Below W.heap.size W W') :
    ∀ (ts : List TypeId) (vs : List Value) (ds : List (DataW H)) (ps : List MemPlace), (∀ t ∈ ts, P.readableRec t = true ∧ t < P.types.size) →
      DataW.TrodAll enc P W 0 (fun _ => true) true ts vs ds ps → DataW.TrodAll enc P W' 0 (fun b => decide (b < W.heap.size)) true ts vs ds ps := by
  intro ts
  induction ts with
  | nil =>
    intro vs ds ps _ h
    obtain ⟨rfl, rfl, rfl⟩ := trodAll_nil h
    exact rfl
  | cons t ts ih =>
    intro vs ds ps hr h
    obtain ⟨v, vs', d, ds', p, q, rfl, rfl, rfl, h0, h1⟩ := trodAll_cons h
    have lt0 : ∀ x ∈ p, x.block < W.heap.size := by obtain ⟨m, hm⟩ := h0; exact DataW.trod_lt m _ _ _ hm
    exact ⟨p, q, Below.trod hl (hr t (by simp)).1 (hr t (by simp)).2 h0 hb lt0, ih vs' ds' q (fun t' ht' => hr t' (by simp [ht'])) h1, rfl⟩

/-- All a law's row asks behind the call, out of 'Below' alone. -/
theorem post_law {H : Type} {enc : TypeId × Value → H} {P : Program} {f : Func} {s : ChangeSpec} {W W' : World} {args : Array Value} {ds gs : List (DataW H)} {before : List MemPlace} {tb : TypeId}
    (hl : laidOutB P = true) (hv : s.vars = []) (hW : DataW.Whole enc P f.params.toList s.vars false W args.toList ds gs before)
    (hfn : (s.fn H (ds ++ [])).results = [.lit (.bool true)] ∧ (s.fn H (ds ++ [])).args = ds ∧ (s.fn H (ds ++ [])).vars = [])
    (hr : f.params.toList.all (fun t => P.readableRec t && decide (t < P.types.size)) = true) (hb : Below W.heap.size W W')
    (htb : P.underlying tb = some .bool) (hres : f.resultTypes = #[tb]) :
    s.post enc P f false true false false W args (.bool true) W' := by
  have hW' := hW
  obtain ⟨p, q, hA, hV, rfl, hfz, hnd⟩ := hW
  rw [hv] at hV
  obtain ⟨rfl, rfl⟩ := trodVars_none hV
  refine ⟨ds, [], _, [], p, [], hW', ?_, ?_, ?_, hb.frame _, fun h => by cases h⟩
  · rw [hfn.1, hres]
    exact trodAll_mk1 (shut_bool htb _)
  · rw [hfn.2.1]
    refine trodAll_below hl hb _ _ _ _ ?_ hA
    intro t ht
    have := List.all_eq_true.1 hr t ht
    simpa using this
  · rw [hv, hfn.2.2]
    exact rfl
end Go.Proofs.Ytadabjkhiaidcaa
end

section
set_option linter.unusedVariables false
set_option linter.unusedSimpArgs false
namespace Go.Proofs.Ytadabjkhiaidcaa
open Go.RowKit

theorem new_rowW (w : World) (o : Obj) (n : Nat) (hn : n = w.heap.size) : (w.alloc o).heap[n]? = some o := by
  subst hn
  show (w.heap.push o)[w.heap.size]? = _
  simp
theorem cell_blockW {w : World} {a : Addr} {v : Value} (h : w.cell? a = some v) : a.block < w.heap.size := by
  unfold World.cell? at h
  split at h
  · rename_i c e f hh
    rcases Nat.lt_or_ge a.block w.heap.size with h1 | h1
    · exact h1
    · rw [Array.getElem?_eq_none h1] at hh; cases hh
  · cases h
theorem ret_boolW {a b : Bool} (h : a = b) : Ending.returned (.bool a) = .returned (.bool b) := by rw [h]
def bytesV (l : List UInt8) : List Value := l.map fun x => .int .u8 (x.toNat : Int)
theorem bytesV_length (l : List UInt8) : (bytesV l).length = l.length := by simp [bytesV]
theorem bytesV_append (l m : List UInt8) : bytesV (l ++ m) = bytesV l ++ bytesV m := by simp [bytesV]
theorem bytesV_at (l : List UInt8) (i : Nat) : (bytesV l)[i]? = l[i]?.map fun x => .int .u8 (x.toNat : Int) := by simp [bytesV]
theorem bytesV_one (l : List UInt8) : ∀ u ∈ bytesV l, u.oneCell' = true := by
  intro u hu
  obtain ⟨x, _, rfl⟩ := List.mem_map.1 hu
  rfl

/-- the value is a slice of the bytes l -/
def BS (w : World) (v : Value) (l : List UInt8) : Prop :=
  ∃ (p : Option Addr) (cap : Nat), v = .slice p l.length cap ∧ l.length ≤ cap ∧ cap ≤ maxLen ∧
    (l ≠ [] → ∃ b o, p = some ⟨b, o, none⟩ ∧ b < w.heap.size ∧ ∀ i x, l[i]? = some x → w.cell? ⟨b, o + i, none⟩ = some (.int .u8 (x.toNat : Int)))

theorem BS.nil (w : World) : BS w (.slice none 0 0) [] := ⟨none, 0, rfl, Nat.le_refl _, Nat.zero_le _, fun h => absurd rfl h⟩
theorem BS.keep {w w' : World} {v : Value} {l : List UInt8} (h : BS w v l) (hs : w.heap.size ≤ w'.heap.size)
    (hk : ∀ b o, v.ownBlock = some b → b < w.heap.size → w'.cell? ⟨b, o, none⟩ = w.cell? ⟨b, o, none⟩) : BS w' v l := by
  obtain ⟨p, cap, rfl, h1, h2, h3⟩ := h
  refine ⟨p, cap, rfl, h1, h2, fun hl => ?_⟩
  obtain ⟨b, o, rfl, hb, hc⟩ := h3 hl
  exact ⟨b, o, rfl, by omega, fun i x hx => (hk b _ rfl hb).trans (hc i x hx)⟩
theorem BS.below {w w' : World} {v : Value} {l : List UInt8} (h : BS w v l) (hb : Below w.heap.size w w') : BS w' v l :=
  h.keep hb.size fun b o _ hlt => hb.cell (p := ⟨b, o, none⟩) hlt
theorem BS.alloc {w : World} {v : Value} {l : List UInt8} (h : BS w v l) (o : Obj) : BS (w.alloc o) v l := h.below ((Below.refl _ _).alloc (Nat.le_refl _) _)
theorem BS.drew {w : World} {v : Value} {l : List UInt8} (h : BS w v l) : BS w.drew v l := h.below (Below.refl _ _).drew

/-- 'string(b)' -/
theorem BS.string {P : Program} {w : World} {v : Value} {l : List UInt8} (h : BS w v l) {src dst e : TypeId} (hs : P.underlying src = some (.slice e)) (he : P.underlying e = some (.int .u8)) (hd : P.underlying dst = some .string) :
    (convert src dst v).run P w = .ok (.string ⟨l.toArray⟩) w := by
  obtain ⟨p, cap, rfl, h1, h2, h3⟩ := h
  by_cases hl : l = []
  · subst hl
    cases p with
    | none => exact run_convert_bytes_nil w src e hs he 0 cap dst hd
    | some a => exact run_convert_bytes_back w src dst e a cap [] hs he hd (fun j hj => absurd hj (by simp))
  · obtain ⟨b, o, rfl, hb, hc⟩ := h3 hl
    refine run_convert_bytes_back w src dst e ⟨b, o, none⟩ cap l hs he hd fun j hj => ?_
    rw [Go.WideShapes.add_plain]
    exact hc j _ (List.getElem?_eq_getElem hj)
theorem BS.to_string {w : World} {v : Value} {l : List UInt8} (h : BS w v l) : (convert 113 9 v).run Try.prog w = .ok (.string ⟨l.toArray⟩) w :=
  h.string Try.underlying113 Try.underlying5 Try.underlying9

/-- a row of the call's own is a slice of bytes -/
theorem BS.of_own {w : World} {base e : Nat} {v : Value} {n : Nat} {l : List UInt8} (h : w.ownsRow base e 1 v n (bytesV l)) : BS w v l := by
  obtain ⟨hlen, hor⟩ := h
  have hn : n = l.length := by simpa [bytesV] using hlen.symm
  subst hn
  rcases hor with ⟨rfl, h0⟩ | ⟨g, cap, cur, rfl, hg, hh, hnc, hcm, hcs, htk⟩
  · have : l = [] := List.length_eq_zero_iff.1 h0
    subst this
    exact BS.nil w
  · refine ⟨_, cap, rfl, hnc, hcm, fun hl => ⟨g, 0, rfl, ?_, fun i x hx => ?_⟩⟩
    · rcases Nat.lt_or_ge g w.heap.size with hlt | hge
      · exact hlt
      · rw [Array.getElem?_eq_none hge] at hh; cases hh
    · have hi : i < l.length := (List.getElem?_eq_some_iff.1 hx).1
      rw [cell_of_row w g _ cur _ _ hh, Nat.zero_add]
      have h1 : (cur.toList.take (l.length * 1))[i]? = some (.int .u8 (x.toNat : Int)) := by rw [htk, bytesV_at, hx]; rfl
      rw [List.getElem?_take_of_lt (by omega)] at h1
      simpa using h1

theorem byte_info : ∃ i, Try.prog.info? 5 = some i ∧ i.zero = some (.int .u8 0) ∧ i.size = 1 ∧ i.bytes = 1 := by
  have h : (Try.prog.info? 5).map (fun i => (i.zero, i.size, i.bytes)) = some (some (.int .u8 0), 1, 1) := by kernel_rfl
  cases hi : Try.prog.info? 5 with
  | none => rw [hi] at h; cases h
  | some i =>
    rw [hi] at h
    injection h with h
    injection h with h1 h2
    injection h2 with h2 h3
    exact ⟨i, rfl, h1, h2, h3⟩
theorem run_append_none {P : Program} (w : World) (base : Nat) (t ty e : TypeId) (i : TypeInfo) (size : Nat) (ht : P.underlying t = some (.slice e)) (hi : P.info? e = some i)
    (v : Value) (n : Nat) (xs : List Value) (hown : w.ownsRow base e size v n xs) (c : Nat) : (Builtin.append_ #[t, t] ty #[v, .slice none 0 c]).run P w = .ok v w := by
  rcases hown.2 with ⟨rfl, rfl⟩ | ⟨g, cap, cur, rfl, _, _, hnc, _⟩
  · simp [Builtin.append_, run_underlying ht, sizeOf, typeInfo, hi, Builtin.lenOf, Builtin.firstCells]
  · simp [Builtin.append_, run_underlying ht, sizeOf, typeInfo, hi, Builtin.lenOf, Builtin.firstCells, hnc, storeCells]
set_option maxRecDepth 4000 in
/-- 'append(v, x...)' of bytes -/
theorem run_append_bytes (w : World) (base : Nat) (ty : TypeId) (v : Value) (n : Nat) (xs : List Value) (hown : w.ownsRow base 5 1 v n xs) (x : Value) (l : List UInt8) (hx : BS w x l) (hn : n + l.length ≤ 1099511627776) (hbase : base ≤ w.heap.size) :
    ∃ v' w', (Builtin.append_ #[113, 113] ty #[v, x]).run Try.prog w = .ok v' w' ∧ w'.ownsRow base 5 1 v' (n + l.length) (xs ++ bytesV l) ∧ w.grownBy w' v.ownBlock ∧
      (v' = .slice none 0 0 ↔ v = .slice none 0 0 ∧ l = []) ∧ (v'.ownBlock = v.ownBlock ∨ v'.ownBlock = some w.heap.size) := by
  obtain ⟨i0, hi0, hi1, hi2, hi3⟩ := byte_info
  obtain ⟨p, cap, rfl, h1, h2, h3⟩ := hx
  cases p with
  | none =>
    have hl : l = [] := by
      by_cases hl : l = []
      · exact hl
      · obtain ⟨b, o, h, _⟩ := h3 hl; cases h
    subst hl
    exact ⟨v, w, run_append_none w base _ ty _ i0 1 Try.underlying113 hi0 v n xs hown cap, by simpa [bytesV] using hown, World.grownBy.refl w _, by simp, .inl rfl⟩
  | some ad =>
    obtain ⟨v', w', hr, g1, g2, g3, g4⟩ := run_append_own_at (P := Try.prog) w base 113 ty _ i0 _ 1 1 Try.underlying113 hi0 hi1 hi2 hi3 rfl (by decide) v n xs hown ad l.length cap (bytesV l) (by simp [bytesV]) (fun j u hu => by
        rw [bytesV_at] at hu
        cases hx : l[j]? with
        | none => rw [hx] at hu; cases hu
        | some y =>
          rw [hx] at hu
          injection hu with hu
          obtain ⟨b, o, e, hb, hc⟩ := h3 (by intro h; subst h; simp at hx)
          injection e with e
          subst e
          rw [Go.WideShapes.add_plain, hc j y hx, ← hu]) (bytesV_one l) (by simp only [maxLen]; omega) (by omega) hbase
    exact ⟨v', w', hr, g1, g2, by rw [g3]; simp [List.length_eq_zero_iff], g4⟩
theorem wpList_append_bytes {ops : Array Oper} {rest : List Oper} {o : Oper} {a : Act} {Q : Exit → Act → World → Prop} {w : World} (hgd : o.guard = none) (s x : Operand)
    (ho : o.op = .call { callee := .builtin .append, args := #[s, x], argTypes := #[113, 113] }) (base : Nat) (v : Value) (n : Nat) (xs : List Value) (hs : a.eval s = v) (hown : w.ownsRow base 5 1 v n xs)
    (y : Value) (l : List UInt8) (hx : a.eval x = y) (hb : BS w y l) (hn : n + l.length ≤ 1099511627776) (hbase : base ≤ w.heap.size)
    (h : ∀ v' w', w'.ownsRow base 5 1 v' (n + l.length) (xs ++ bytesV l) → w.grownBy w' v.ownBlock → (v' = .slice none 0 0 ↔ v = .slice none 0 0 ∧ l = []) → (v'.ownBlock = v.ownBlock ∨ v'.ownBlock = some w.heap.size) → wpList Try.prog ops Q rest (a.put o.dst v') w') :
    wpList Try.prog ops Q (o :: rest) a w := by
  obtain ⟨v', w', hr, g1, g2, g3, g4⟩ := run_append_bytes w base o.type v n xs hown y l hb hn hbase
  exact Lib.wpList_append_run w hgd s x _ _ ho v y hs hx v' w' hr (h v' w' g1 g2 g3 g4)

/-- WHAT A CALL KEEPS that writes only blocks whose elements are of the types T: every other old block is as it was. -/
structure Kept (T : List TypeId) (w w' : World) : Prop where
  size : w.heap.size ≤ w'.heap.size
  block : ∀ (i : Nat) (cs : Array Value) (t : TypeId) (fr : Nat × Nat), w.heap[i]? = some (Obj.cells cs t fr) → t ∉ T → w'.heap[i]? = some (Obj.cells cs t fr)
theorem Kept.refl (T : List TypeId) (w : World) : Kept T w w := ⟨Nat.le_refl _, fun _ _ _ _ h _ => h⟩
theorem Kept.trans {T : List TypeId} {a b c : World} (h : Kept T a b) (k : Kept T b c) : Kept T a c := ⟨Nat.le_trans h.size k.size, fun i cs t fr hi ht => k.block i cs t fr (h.block i cs t fr hi ht) ht⟩
theorem block_lt {w : World} {i : Nat} {o : Obj} (h : w.heap[i]? = some o) : i < w.heap.size := by
  rcases Nat.lt_or_ge i w.heap.size with h1 | h1
  · exact h1
  · rw [Array.getElem?_eq_none h1] at h; cases h
theorem Kept.of_below {T : List TypeId} {w w' : World} (h : Below w.heap.size w w') : Kept T w w' := ⟨h.size, fun i cs t fr hi _ => (h.block i (block_lt hi)).trans hi⟩
theorem Kept.alloc {T : List TypeId} {a w : World} (h : Kept T a w) (o : Obj) : Kept T a (w.alloc o) := h.trans (.of_below ((Below.refl _ _).alloc (Nat.le_refl _) _))
theorem Kept.setCell {T : List TypeId} {a w : World} (h : Kept T a w) {g i : Nat} {cs : Array Value} {t : TypeId} {fr : Nat × Nat} (hg : w.heap[g]? = some (.cells cs t fr)) (ht : t ∈ T) (v : Value) : Kept T a (w.setCell ⟨g, i, none⟩ v) :=
  h.trans ⟨by simp, fun i cs' t' fr' hi ht' => by
    rw [heap_setCell_other w _ i v (fun e => by subst e; rw [hg] at hi; injection hi with hi; injection hi with h1 h2 h3; subst h2; exact ht' ht)]
    exact hi⟩
end Go.Proofs.Ytadabjkhiaidcaa
end
