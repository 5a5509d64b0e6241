/- Contracts: the reference's Amounts, May and Sum. Words for memory: a slice of bytes that reads as a list; append of bytes; what a call that writes only blocks of some types keeps. -/
import Derived.Test.YtajpggnmhkpbkaaRfw10
import Derived.Deep.RegionWith
import Derived.Test.YtajpggnmhkpbkaaRfw8
import Derived.WalkKit
import Derived.WalkSpells
import Derived.WalkLawsBesides
import Derived.Lib.Hide
import Derived.Lib.SliceRun
import Derived.Lib.AppendZeros
import Derived.Laws.BytesArg
import Derived.Laws.IdiomStrings
import Derived.Laws.Rows
import Derived.Maps.AppendAt
import Derived.OwnWalk
import Derived.Deep.Slices

section
set_option linter.unusedVariables false
set_option linter.unusedSimpArgs false
namespace Go.Proofs.Ytajpggnmhkpbkaa
open Go.ChangeShapes Go.WideShapes Go.ChangeAt Go.RowKit

theorem new_row (w : World) (o : Obj) (n : Nat) (hn : n = w.heap.size) : (w.alloc o).heap[n]? = some o := by
  subst hn
  show (w.heap.push o)[w.heap.size]? = _
  simp

set_option maxHeartbeats 400000 in
theorem rAmounts_any (d t s k a0 a1 a2 a3 a4 a5 : Int) (w : World) :
    Calls Try.prog 59 #[.agg #[.int .i64 d, .int .u64 t, .int .i64 s, .int .i64 k, .int .i64 a0, .int .i64 a1, .int .i64 a2, .int .i64 a3, .int .i64 a4, .int .i64 a5]] w
      fun e w' => ∃ b, b < w'.heap.size ∧ e = .returned (.slice (some ⟨b, 0, none⟩) 6 6) ∧ w'.heap[b]? = some (.cells (Post.amRow [a0, a1, a2, a3, a4, a5]) 2 (0, 0)) ∧ Below w.heap.size w w' := by
  go_enter Try.func59, Try.ntmps59
  go_wp2
  go_ret
  exact ⟨_, by simp, rfl, new_row _ _ _ (by simp), balloc (balloc (Below.refl _ _) _) _⟩

theorem may_parts {d t s k : Int} {am : List Int} : Post.may d t s k am = (decide (1 ≤ k) && decide (k ≤ 5) && Post.cols k am && decide (0 ≤ d) && decide (d ≤ 1000000) && decide (1 ≤ s) && decide (s ≤ 200) && decide (Num.check t = 0)) := rfl

set_option maxHeartbeats 1000000 in
theorem rMay_any (d t s k a0 a1 a2 a3 a4 a5 : Int) (ht0 : 0 ≤ t) (ht1 : t ≤ 18446744073709551615) (w : World) :
    Calls Try.prog 34 #[.agg #[.int .i64 d, .int .u64 t, .int .i64 s, .int .i64 k, .int .i64 a0, .int .i64 a1, .int .i64 a2, .int .i64 a3, .int .i64 a4, .int .i64 a5]] w
      fun e w' => e = .returned (.bool (Post.may d t s k [a0, a1, a2, a3, a4, a5])) ∧ Below w.heap.size w w' := by
  have HC := Lib.hid (fun W => rCheck_any t ht0 ht1 W)
  have HM : Hid (∀ b, (∀ k1 : 1 ≤ k, ∀ k5 : k ≤ 5, ∀ d0 : 0 ≤ d, ∀ d1 : d ≤ 1000000, ∀ s1 : 1 ≤ s, ∀ s2 : s ≤ 200, Num.check t = 0 → b = Post.cols k [a0, a1, a2, a3, a4, a5]) → (¬ (1 ≤ k ∧ k ≤ 5 ∧ 0 ≤ d ∧ d ≤ 1000000 ∧ 1 ≤ s ∧ s ≤ 200 ∧ Num.check t = 0) → b = false) → b = Post.may d t s k [a0, a1, a2, a3, a4, a5]) := Lib.hid (by
    intro b h1 h2
    rw [may_parts]
    by_cases h : 1 ≤ k ∧ k ≤ 5 ∧ 0 ≤ d ∧ d ≤ 1000000 ∧ 1 ≤ s ∧ s ≤ 200 ∧ Num.check t = 0
    · obtain ⟨g1, g2, g3, g4, g5, g6, g7⟩ := h
      rw [h1 g1 g2 g3 g4 g5 g6 g7]; simp [*]
    · rw [h2 h]
      symm
      rw [Bool.eq_false_iff]
      intro hh
      simp only [Bool.and_eq_true, decide_eq_true_eq] at hh
      exact h ⟨hh.1.1.1.1.1.1.1, hh.1.1.1.1.1.1.2, hh.1.1.1.1.2, hh.1.1.1.2, hh.1.1.2, hh.1.2, hh.2⟩)
  generalize Post.may d t s k [a0, a1, a2, a3, a4, a5] = mm at *
  generalize Num.check t = ck at *
  have key : d < 0 ∨ 0 ≤ d ∧ 1000000 < d ∨ 0 ≤ d ∧ d ≤ 1000000 ∧ ck ≠ 0 ∨ 0 ≤ d ∧ d ≤ 1000000 ∧ ck = 0 ∧ s < 1 ∨ 0 ≤ d ∧ d ≤ 1000000 ∧ ck = 0 ∧ 1 ≤ s ∧ 200 < s ∨
    0 ≤ d ∧ d ≤ 1000000 ∧ ck = 0 ∧ 1 ≤ s ∧ s ≤ 200 ∧ k < 1 ∨ 0 ≤ d ∧ d ≤ 1000000 ∧ ck = 0 ∧ 1 ≤ s ∧ s ≤ 200 ∧ 1 ≤ k ∧ 5 < k ∨ 0 ≤ d ∧ d ≤ 1000000 ∧ ck = 0 ∧ 1 ≤ s ∧ s ≤ 200 ∧ 1 ≤ k ∧ k ≤ 5 := by omega
  rcases key with h | ⟨h0, h⟩ | ⟨h0, h1, h⟩ | ⟨h0, h1, h2, h⟩ | ⟨h0, h1, h2, h3, h⟩ | ⟨h0, h1, h2, h3, h4, h⟩ | ⟨h0, h1, h2, h3, h4, h5, h⟩ | ⟨h0, h1, h2, h3, h4, h5, h⟩
  · have HF := Lib.hid (HM.out false (fun _ _ _ _ _ _ _ => by omega) (fun _ => rfl))
    go_enter Try.func34, Try.ntmps34
    go_wp2
    go_ret
    exact ⟨ret_bool HF.out, balloc (Below.refl _ _) _⟩
  · have HF := Lib.hid (HM.out false (fun _ _ _ _ _ _ _ => by omega) (fun _ => rfl))
    go_enter Try.func34, Try.ntmps34
    go_wp2
    go_ret
    exact ⟨ret_bool HF.out, balloc (Below.refl _ _) _⟩
  · have HF := Lib.hid (HM.out false (fun _ _ _ _ _ _ _ => by omega) (fun _ => rfl))
    go_enter Try.func34, Try.ntmps34
    go_wp2_with fail
    refine (HC.out _).mono ?_
    rintro e w1 ⟨rfl, hb1⟩
    go_wp2
    go_ret
    exact ⟨ret_bool HF.out, below_call (balloc (Below.refl _ _) _) hb1⟩
  all_goals
    subst h2
    first
      | (have HF := Lib.hid (HM.out false (fun _ _ _ _ _ _ _ => by omega) (fun _ => rfl))
         go_enter Try.func34, Try.ntmps34
         go_wp2_with fail
         refine (HC.out _).mono ?_
         rintro e w1 ⟨rfl, hb1⟩
         have hz1 : w.heap.size < w1.heap.size := by have := hb1.size; simp at this; omega
         have hc1 := (bcell hb1).1
         go_wp2
         go_ret
         exact ⟨ret_bool HF.out, below_call (balloc (Below.refl _ _) _) hb1⟩)
      | skip
  have HF := Lib.hid (HM.out _ (fun _ _ _ _ _ _ _ => rfl) (fun hn => absurd ⟨h5, h, h0, h1, h3, h4, rfl⟩ hn))
  go_enter Try.func34, Try.ntmps34
  go_wp2_with fail
  refine (HC.out _).mono ?_
  rintro e w1 ⟨rfl, hb1⟩
  have hz1 : w.heap.size < w1.heap.size := by have := hb1.size; simp at this; omega
  have hc1 := (bcell hb1).1
  have HB1 := Lib.hid (below_call (balloc (Below.refl w.heap.size w) _) hb1)
  generalize hcol : Post.cols k [a0, a1, a2, a3, a4, a5] = cc at *
  have HCC := Lib.hid hcol; clear hcol
  have hck : ∀ j, w1.cell? ⟨w.heap.size, j, none⟩ = (#[.int .i64 d, .int .u64 t, .int .i64 s, .int .i64 k, .int .i64 a0, .int .i64 a1, .int .i64 a2, .int .i64 a3, .int .i64 a4, .int .i64 a5] : Array Value)[j]? := by
    intro j
    rw [hc1 w.heap.size j (by simp)]
    exact World.cell?_alloc_mark w _ _ (0, 0) j
  have HCK := Lib.hid hck
  clear hc1 hb1
  go_wp2_with fail
  have HAM := Lib.hid (fun W => rAmounts_any d t s k a0 a1 a2 a3 a4 a5 W)
  have HCO := Lib.hid (fun b (W : World) (hb : b < W.heap.size) (hr : W.heap[b]? = some (.cells (Post.amRow [a0, a1, a2, a3, a4, a5]) 2 (0, 0))) =>
    HCC.out ▸ rColumns_any k [a0, a1, a2, a3, a4, a5] 6 b 0 h5 h rfl (by omega) W hb (fun i hi => by rw [Nat.zero_add, cell_of_row W b i _ _ _ hr]; exact Post.amRow_at hi))
  go_region_with (first
    | (go_at_call 59; refine (HAM.out _).mono ?_; rintro e w2 ⟨b2, hs2, rfl, hr2, hb2⟩; have hc2 : ∀ j, w2.cell? ⟨w.heap.size, j, none⟩ = (#[.int .i64 d, .int .u64 t, .int .i64 s, .int .i64 k, .int .i64 a0, .int .i64 a1, .int .i64 a2, .int .i64 a3, .int .i64 a4, .int .i64 a5] : Array Value)[j]? := fun j => (hb2.cell (p := ⟨w.heap.size, j, none⟩) (by exact hz1)).trans (HCK.out j))
    | (go_at_call 58; refine (HCO.out b2 _ (by assumption) (by assumption)).mono ?_; rintro e w3 ⟨rfl, hb3⟩))
  all_goals
    have HB3 := Lib.hid (below_call (HB1.out.drew.trans (hb2.mono HB1.out.size)) hb3)
    go_wp2
    go_ret
    exact ⟨ret_bool HF.out, HB3.out⟩

theorem row_set_far {w : World} {g g' : Nat} {o : Option Obj} (h : w.heap[g']? = o) (hn : g' ≠ g) (i : Nat) (v : Value) : (w.setCell ⟨g, i, none⟩ v).heap[g']? = o := (heap_setCell_other w ⟨g, i, none⟩ g' v hn).trans h
theorem seven_far {w : World} {g g' : Nat} {o : Option Obj} (h : w.heap[g']? = o) (hn : g' ≠ g) (v0 v1 v2 v3 v4 v5 v6 : Value) :
    (((((((w.setCell ⟨g, 0, none⟩ v0).setCell ⟨g, 1, none⟩ v1).setCell ⟨g, 2, none⟩ v2).setCell ⟨g, 3, none⟩ v3).setCell ⟨g, 4, none⟩ v4).setCell ⟨g, 5, none⟩ v5).setCell ⟨g, 6, none⟩ v6).heap[g']? = o :=
  row_set_far (row_set_far (row_set_far (row_set_far (row_set_far (row_set_far (row_set_far h hn _ _) hn _ _) hn _ _) hn _ _) hn _ _) hn _ _) hn _ _
theorem row_alloc {w : World} {g : Nat} {ob : Obj} (h : w.heap[g]? = some ob) (o : Obj) : (w.alloc o).heap[g]? = some ob := by
  have hlt : g < w.heap.size := by
    rcases Nat.lt_or_ge g w.heap.size with h1 | h1
    · exact h1
    · rw [Array.getElem?_eq_none h1] at h; cases h
  exact (Below.heap_alloc w o g hlt).trans h
theorem seven_below {B : Nat} {a w : World} {g : Nat} (h : Below B a w) (hp : B ≤ g) (v0 v1 v2 v3 v4 v5 v6 : Value) :
    Below B a (((((((w.setCell ⟨g, 0, none⟩ v0).setCell ⟨g, 1, none⟩ v1).setCell ⟨g, 2, none⟩ v2).setCell ⟨g, 3, none⟩ v3).setCell ⟨g, 4, none⟩ v4).setCell ⟨g, 5, none⟩ v5).setCell ⟨g, 6, none⟩ v6) :=
  bset (bset (bset (bset (bset (bset (bset h hp _) hp _) hp _) hp _) hp _) hp _) hp _

end Go.Proofs.Ytajpggnmhkpbkaa
end

section
set_option linter.unusedVariables false
set_option linter.unusedSimpArgs false
namespace Go.Proofs.Ytajpggnmhkpbkaa
open Go.RowKit

theorem new_rowW (w : World) (o : Obj) (n : Nat) (hn : n = w.heap.size) : (w.alloc o).heap[n]? = some o := by
  subst hn
  show (w.heap.push o)[w.heap.size]? = _
  simp
theorem cell_blockW {w : World} {a : Addr} {v : Value} (h : w.cell? a = some v) : a.block < w.heap.size := by
  unfold World.cell? at h
  split at h
  · rename_i c e f hh
    rcases Nat.lt_or_ge a.block w.heap.size with h1 | h1
    · exact h1
    · rw [Array.getElem?_eq_none h1] at hh; cases hh
  · cases h
theorem ret_boolW {a b : Bool} (h : a = b) : Ending.returned (.bool a) = .returned (.bool b) := by rw [h]
def bytesV (l : List UInt8) : List Value := l.map fun x => .int .u8 (x.toNat : Int)
theorem bytesV_length (l : List UInt8) : (bytesV l).length = l.length := by simp [bytesV]
theorem bytesV_append (l m : List UInt8) : bytesV (l ++ m) = bytesV l ++ bytesV m := by simp [bytesV]
theorem bytesV_at (l : List UInt8) (i : Nat) : (bytesV l)[i]? = l[i]?.map fun x => .int .u8 (x.toNat : Int) := by simp [bytesV]
theorem bytesV_one (l : List UInt8) : ∀ u ∈ bytesV l, u.oneCell' = true := by
  intro u hu
  obtain ⟨x, _, rfl⟩ := List.mem_map.1 hu
  rfl

/-- the value is a slice of the bytes l -/
def BS (w : World) (v : Value) (l : List UInt8) : Prop :=
  ∃ (p : Option Addr) (cap : Nat), v = .slice p l.length cap ∧ l.length ≤ cap ∧ cap ≤ maxLen ∧
    (l ≠ [] → ∃ b o, p = some ⟨b, o, none⟩ ∧ b < w.heap.size ∧ ∀ i x, l[i]? = some x → w.cell? ⟨b, o + i, none⟩ = some (.int .u8 (x.toNat : Int)))

theorem BS.nil (w : World) : BS w (.slice none 0 0) [] := ⟨none, 0, rfl, Nat.le_refl _, Nat.zero_le _, fun h => absurd rfl h⟩
theorem BS.keep {w w' : World} {v : Value} {l : List UInt8} (h : BS w v l) (hs : w.heap.size ≤ w'.heap.size)
    (hk : ∀ b o, v.ownBlock = some b → b < w.heap.size → w'.cell? ⟨b, o, none⟩ = w.cell? ⟨b, o, none⟩) : BS w' v l := by
  obtain ⟨p, cap, rfl, h1, h2, h3⟩ := h
  refine ⟨p, cap, rfl, h1, h2, fun hl => ?_⟩
  obtain ⟨b, o, rfl, hb, hc⟩ := h3 hl
  exact ⟨b, o, rfl, by omega, fun i x hx => (hk b _ rfl hb).trans (hc i x hx)⟩
theorem BS.below {w w' : World} {v : Value} {l : List UInt8} (h : BS w v l) (hb : Below w.heap.size w w') : BS w' v l :=
  h.keep hb.size fun b o _ hlt => hb.cell (p := ⟨b, o, none⟩) hlt
theorem BS.alloc {w : World} {v : Value} {l : List UInt8} (h : BS w v l) (o : Obj) : BS (w.alloc o) v l := h.below ((Below.refl _ _).alloc (Nat.le_refl _) _)
theorem BS.drew {w : World} {v : Value} {l : List UInt8} (h : BS w v l) : BS w.drew v l := h.below (Below.refl _ _).drew

/-- 'string(b)' -/
theorem BS.string {P : Program} {w : World} {v : Value} {l : List UInt8} (h : BS w v l) {src dst e : TypeId} (hs : P.underlying src = some (.slice e)) (he : P.underlying e = some (.int .u8)) (hd : P.underlying dst = some .string) :
    (convert src dst v).run P w = .ok (.string ⟨l.toArray⟩) w := by
  obtain ⟨p, cap, rfl, h1, h2, h3⟩ := h
  by_cases hl : l = []
  · subst hl
    cases p with
    | none => exact run_convert_bytes_nil w src e hs he 0 cap dst hd
    | some a => exact run_convert_bytes_back w src dst e a cap [] hs he hd (fun j hj => absurd hj (by simp))
  · obtain ⟨b, o, rfl, hb, hc⟩ := h3 hl
    refine run_convert_bytes_back w src dst e ⟨b, o, none⟩ cap l hs he hd fun j hj => ?_
    rw [Go.WideShapes.add_plain]
    exact hc j _ (List.getElem?_eq_getElem hj)
theorem BS.to_string {w : World} {v : Value} {l : List UInt8} (h : BS w v l) : (convert 87 9 v).run Try.prog w = .ok (.string ⟨l.toArray⟩) w :=
  h.string Try.underlying87 Try.underlying5 Try.underlying9

/-- a row of the call's own is a slice of bytes -/
theorem BS.of_own {w : World} {base e : Nat} {v : Value} {n : Nat} {l : List UInt8} (h : w.ownsRow base e 1 v n (bytesV l)) : BS w v l := by
  obtain ⟨hlen, hor⟩ := h
  have hn : n = l.length := by simpa [bytesV] using hlen.symm
  subst hn
  rcases hor with ⟨rfl, h0⟩ | ⟨g, cap, cur, rfl, hg, hh, hnc, hcm, hcs, htk⟩
  · have : l = [] := List.length_eq_zero_iff.1 h0
    subst this
    exact BS.nil w
  · refine ⟨_, cap, rfl, hnc, hcm, fun hl => ⟨g, 0, rfl, ?_, fun i x hx => ?_⟩⟩
    · rcases Nat.lt_or_ge g w.heap.size with hlt | hge
      · exact hlt
      · rw [Array.getElem?_eq_none hge] at hh; cases hh
    · have hi : i < l.length := (List.getElem?_eq_some_iff.1 hx).1
      rw [cell_of_row w g _ cur _ _ hh, Nat.zero_add]
      have h1 : (cur.toList.take (l.length * 1))[i]? = some (.int .u8 (x.toNat : Int)) := by rw [htk, bytesV_at, hx]; rfl
      rw [List.getElem?_take_of_lt (by omega)] at h1
      simpa using h1

theorem byte_info : ∃ i, Try.prog.info? 5 = some i ∧ i.zero = some (.int .u8 0) ∧ i.size = 1 ∧ i.bytes = 1 := by
  have h : (Try.prog.info? 5).map (fun i => (i.zero, i.size, i.bytes)) = some (some (.int .u8 0), 1, 1) := by kernel_rfl
  cases hi : Try.prog.info? 5 with
  | none => rw [hi] at h; cases h
  | some i =>
    rw [hi] at h
    injection h with h
    injection h with h1 h2
    injection h2 with h2 h3
    exact ⟨i, rfl, h1, h2, h3⟩
theorem run_append_none {P : Program} (w : World) (base : Nat) (t ty e : TypeId) (i : TypeInfo) (size : Nat) (ht : P.underlying t = some (.slice e)) (hi : P.info? e = some i)
    (v : Value) (n : Nat) (xs : List Value) (hown : w.ownsRow base e size v n xs) (c : Nat) : (Builtin.append_ #[t, t] ty #[v, .slice none 0 c]).run P w = .ok v w := by
  rcases hown.2 with ⟨rfl, rfl⟩ | ⟨g, cap, cur, rfl, _, _, hnc, _⟩
  · simp [Builtin.append_, run_underlying ht, sizeOf, typeInfo, hi, Builtin.lenOf, Builtin.firstCells]
  · simp [Builtin.append_, run_underlying ht, sizeOf, typeInfo, hi, Builtin.lenOf, Builtin.firstCells, hnc, storeCells]
set_option maxRecDepth 4000 in
/-- 'append(v, x...)' of bytes -/
theorem run_append_bytes (w : World) (base : Nat) (ty : TypeId) (v : Value) (n : Nat) (xs : List Value) (hown : w.ownsRow base 5 1 v n xs) (x : Value) (l : List UInt8) (hx : BS w x l) (hn : n + l.length ≤ 1099511627776) (hbase : base ≤ w.heap.size) :
    ∃ v' w', (Builtin.append_ #[87, 87] ty #[v, x]).run Try.prog w = .ok v' w' ∧ w'.ownsRow base 5 1 v' (n + l.length) (xs ++ bytesV l) ∧ w.grownBy w' v.ownBlock ∧
      (v' = .slice none 0 0 ↔ v = .slice none 0 0 ∧ l = []) ∧ (v'.ownBlock = v.ownBlock ∨ v'.ownBlock = some w.heap.size) := by
  obtain ⟨i0, hi0, hi1, hi2, hi3⟩ := byte_info
  obtain ⟨p, cap, rfl, h1, h2, h3⟩ := hx
  cases p with
  | none =>
    have hl : l = [] := by
      by_cases hl : l = []
      · exact hl
      · obtain ⟨b, o, h, _⟩ := h3 hl; cases h
    subst hl
    exact ⟨v, w, run_append_none w base _ ty _ i0 1 Try.underlying87 hi0 v n xs hown cap, by simpa [bytesV] using hown, World.grownBy.refl w _, by simp, .inl rfl⟩
  | some ad =>
    obtain ⟨v', w', hr, g1, g2, g3, g4⟩ := run_append_own_at (P := Try.prog) w base 87 ty _ i0 _ 1 1 Try.underlying87 hi0 hi1 hi2 hi3 rfl (by decide) v n xs hown ad l.length cap (bytesV l) (by simp [bytesV]) (fun j u hu => by
        rw [bytesV_at] at hu
        cases hx : l[j]? with
        | none => rw [hx] at hu; cases hu
        | some y =>
          rw [hx] at hu
          injection hu with hu
          obtain ⟨b, o, e, hb, hc⟩ := h3 (by intro h; subst h; simp at hx)
          injection e with e
          subst e
          rw [Go.WideShapes.add_plain, hc j y hx, ← hu]) (bytesV_one l) (by simp only [maxLen]; omega) (by omega) hbase
    exact ⟨v', w', hr, g1, g2, by rw [g3]; simp [List.length_eq_zero_iff], g4⟩
theorem wpList_append_bytes {ops : Array Oper} {rest : List Oper} {o : Oper} {a : Act} {Q : Exit → Act → World → Prop} {w : World} (hgd : o.guard = none) (s x : Operand)
    (ho : o.op = .call { callee := .builtin .append, args := #[s, x], argTypes := #[87, 87] }) (base : Nat) (v : Value) (n : Nat) (xs : List Value) (hs : a.eval s = v) (hown : w.ownsRow base 5 1 v n xs)
    (y : Value) (l : List UInt8) (hx : a.eval x = y) (hb : BS w y l) (hn : n + l.length ≤ 1099511627776) (hbase : base ≤ w.heap.size)
    (h : ∀ v' w', w'.ownsRow base 5 1 v' (n + l.length) (xs ++ bytesV l) → w.grownBy w' v.ownBlock → (v' = .slice none 0 0 ↔ v = .slice none 0 0 ∧ l = []) → (v'.ownBlock = v.ownBlock ∨ v'.ownBlock = some w.heap.size) → wpList Try.prog ops Q rest (a.put o.dst v') w') :
    wpList Try.prog ops Q (o :: rest) a w := by
  obtain ⟨v', w', hr, g1, g2, g3, g4⟩ := run_append_bytes w base o.type v n xs hown y l hb hn hbase
  exact Lib.wpList_append_run w hgd s x _ _ ho v y hs hx v' w' hr (h v' w' g1 g2 g3 g4)

/-- WHAT A CALL KEEPS that writes only blocks whose elements are of the types T: every other old block is as it was. -/
structure Kept (T : List TypeId) (w w' : World) : Prop where
  size : w.heap.size ≤ w'.heap.size
  block : ∀ (i : Nat) (cs : Array Value) (t : TypeId) (fr : Nat × Nat), w.heap[i]? = some (Obj.cells cs t fr) → t ∉ T → w'.heap[i]? = some (Obj.cells cs t fr)
theorem Kept.refl (T : List TypeId) (w : World) : Kept T w w := ⟨Nat.le_refl _, fun _ _ _ _ h _ => h⟩
theorem Kept.trans {T : List TypeId} {a b c : World} (h : Kept T a b) (k : Kept T b c) : Kept T a c := ⟨Nat.le_trans h.size k.size, fun i cs t fr hi ht => k.block i cs t fr (h.block i cs t fr hi ht) ht⟩
theorem block_lt {w : World} {i : Nat} {o : Obj} (h : w.heap[i]? = some o) : i < w.heap.size := by
  rcases Nat.lt_or_ge i w.heap.size with h1 | h1
  · exact h1
  · rw [Array.getElem?_eq_none h1] at h; cases h
theorem Kept.of_below {T : List TypeId} {w w' : World} (h : Below w.heap.size w w') : Kept T w w' := ⟨h.size, fun i cs t fr hi _ => (h.block i (block_lt hi)).trans hi⟩
theorem Kept.alloc {T : List TypeId} {a w : World} (h : Kept T a w) (o : Obj) : Kept T a (w.alloc o) := h.trans (.of_below ((Below.refl _ _).alloc (Nat.le_refl _) _))
theorem Kept.setCell {T : List TypeId} {a w : World} (h : Kept T a w) {g i : Nat} {cs : Array Value} {t : TypeId} {fr : Nat × Nat} (hg : w.heap[g]? = some (.cells cs t fr)) (ht : t ∈ T) (v : Value) : Kept T a (w.setCell ⟨g, i, none⟩ v) :=
  h.trans ⟨by simp, fun i cs' t' fr' hi ht' => by
    rw [heap_setCell_other w _ i v (fun e => by subst e; rw [hg] at hi; injection hi with hi; injection hi with h1 h2 h3; subst h2; exact ht' ht)]
    exact hi⟩
end Go.Proofs.Ytajpggnmhkpbkaa
end
