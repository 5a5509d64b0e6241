/- Contracts of package wire's Writer. -/
import Derived.Test.YtbmphlpmipkpcaaGreatRsm8
import Derived.Test.YtbmphlpmipkpcaaGreatRsm14
import Derived.Deep.RegionHeld3
import Derived.Deep.RegionLaw
import Derived.Deep.RegionWith

set_option linter.unusedVariables false
set_option linter.unusedSimpArgs false
namespace Go.Proofs.YtbmphlpmipkpcaaGreat
open Go.RowKit

/-- the types of the blocks that a writer's methods write -/
def WT : List TypeId := [138, 47]
/-- a writer at a block, of blocks of its own from base on, that has put st (none: it failed), in at most k pieces and bytes -/
def IsW (w : World) (base bw k : Nat) (st : Option (List UInt8)) : Prop :=
  base ≤ bw ∧ match st with
  | none => w.heap[bw]? = some (.cells #[.slice none 0 0, .int .i64 0, .bool true] 138 (0, 0))
  | some l => ∃ (pv : Value) (ps : List (List UInt8)) (vs : List Value), w.heap[bw]? = some (.cells #[pv, .int .i64 l.length, .bool false] 138 (0, 0)) ∧ ps.flatten = l ∧ vs.length = ps.length ∧ ps.length + l.length ≤ k ∧
      w.ownsRow base 47 1 pv vs.length vs ∧ ∀ (i : Nat) (x : Value) (b : List UInt8), vs[i]? = some x → ps[i]? = some b → w.ownsRow base 5 1 x b.length (bytesV b)
/-- what a writer's method leaves -/
def WStep (w w' : World) (base bw k : Nat) (st : Option (List UInt8)) : Prop := IsW w' base bw k st ∧ Below base w w' ∧ Kept WT w w'

set_option maxHeartbeats 400000 in
theorem wfail_any (base bw k : Nat) (st : Option (List UInt8)) (w : World) (h : IsW w base bw k st) :
    Calls Tryz.prog 143 #[.pointer (some ⟨bw, 0, none⟩)] w fun e w' => e = .returned (.pointer (some ⟨bw, 0, none⟩)) ∧ ∀ k', WStep w w' base bw k' none := by
  have hrow : ∃ c0 c1 c2, w.heap[bw]? = some (.cells #[c0, c1, c2] 138 (0, 0)) := by
    obtain ⟨_, h⟩ := h
    cases st with
    | none => exact ⟨_, _, _, h⟩
    | some l => obtain ⟨pv, ps, vs, h, _⟩ := h; exact ⟨_, _, _, h⟩
  have hb := Lib.hid h.1
  clear h
  obtain ⟨c0, c1, c2, hrow⟩ := hrow
  have HR := Lib.hid hrow
  have hc := fun j => cell_of_row w bw j _ _ _ hrow
  have hf := fun j => frozen_of_row w bw j _ _ hrow
  clear hrow
  go_enter Tryz.func143, Tryz.ntmps143
  go_wp2
  go_ret
  refine ⟨rfl, fun k' => ⟨⟨hb.out, ?_⟩, ?_, ?_⟩⟩
  · show (((w.setCell ⟨bw, 0, none⟩ _).setCell ⟨bw, 1, none⟩ _).setCell ⟨bw, 2, none⟩ _).heap[bw]? = _
    rw [heap_setCell_same _ _ _ _ _ _ (heap_setCell_same _ _ _ _ _ _ (heap_setCell_same _ _ _ _ _ _ HR.out))]
    rfl
  · exact (((Below.refl _ _).setCell hb.out _).setCell hb.out _).setCell hb.out _
  · exact (((Kept.refl _ _).setCell HR.out (by simp [WT]) _).setCell (heap_setCell_same _ _ _ _ _ _ HR.out) (by simp [WT]) _).setCell (heap_setCell_same _ _ _ _ _ _ (heap_setCell_same _ _ _ _ _ _ HR.out)) (by simp [WT]) _

theorem own_form {w : World} {base e n : Nat} {v : Value} {xs : List Value} (h : w.ownsRow base e 1 v n xs) : ∃ q c, v = .slice q n c := by
  rcases h.2 with ⟨rfl, rfl⟩ | ⟨g, cap, cur, rfl, _⟩
  · exact ⟨_, _, rfl⟩
  · exact ⟨_, _, rfl⟩
theorem own_below {w w' : World} {base e n : Nat} {v : Value} {xs : List Value} (h : w.ownsRow base e 1 v n xs) (hb : Below w.heap.size w w') : w'.ownsRow base e 1 v n xs := by
  obtain ⟨h1, h2⟩ := h
  refine ⟨h1, ?_⟩
  rcases h2 with h2 | ⟨g, cap, cur, e1, hg, hh, h3⟩
  · exact .inl h2
  · exact .inr ⟨g, cap, cur, e1, hg, (hb.block g (block_lt hh)).trans hh, h3⟩
theorem own_ne {w : World} {base e n g : Nat} {v : Value} {xs : List Value} {cs : Array Value} {t : TypeId} {fr : Nat × Nat} (h : w.ownsRow base e 1 v n xs) (hg : w.heap[g]? = some (.cells cs t fr)) (hne : e ≠ t) : some g ≠ v.ownBlock := by
  rcases h.2 with ⟨rfl, _⟩ | ⟨g', cap, cur, rfl, _, hh, _⟩
  · simp [Value.ownBlock]
  · intro he
    injection he with he
    simp at he
    subst he
    rw [hg] at hh
    injection hh with hh
    injection hh with _ ht
    exact hne ht.symm
theorem piece_info : ∃ i, Tryz.prog.info? 47 = some i ∧ i.zero = some (.slice none 0 0) ∧ i.size = 1 ∧ i.bytes = 24 := by
  have h : (Tryz.prog.info? 47).map (fun i => (i.zero, i.size, i.bytes)) = some (some (.slice none 0 0), 1, 24) := by kernel_rfl
  cases hi : Tryz.prog.info? 47 with
  | none => rw [hi] at h; cases h
  | some i =>
    rw [hi] at h
    injection h with h
    injection h with h1 h2
    injection h2 with h2 h3
    exact ⟨i, rfl, h1, h2, h3⟩
/-- 'append(v, u)' of one slice of bytes, in a region that draws its order -/
theorem step_append_piece {ops : Array Oper} {o : Oper} {a : Act} {K : Act → World → Prop} {Q : Exit → Act → World → Prop} {E : Prop} {w : World} (hgd : o.guard = none) (s x : Operand)
    (ho : o.op = .call { callee := .builtin .append, args := #[s, x], argTypes := #[136, 136] }) (base : Nat) (v : Value) (n : Nat) (xs : List Value) (hs : a.eval s = v) (hown : w.ownsRow base 47 1 v n xs)
    (g : Nat) (u : Value) (hx : a.eval x = .slice (some ⟨g, 0, none⟩) 1 1) (hg : w.heap[g]? = some (.cells #[u] 47 (0, 0))) (h1 : u.oneCell' = true) (hn : n + 1 ≤ 1099511627776) (hbase : base ≤ w.heap.size)
    (h : ∀ v' w', w'.ownsRow base 47 1 v' (n + 1) (xs ++ [u]) → w.grownBy w' v.ownBlock → (v'.ownBlock = v.ownBlock ∨ v'.ownBlock = some w.heap.size) → K (a.put o.dst v') w') :
    if Region.wanted o (yielded ops a.tmps) = true then Oper.wp Tryz.prog o a w K Q else E := by
  have hw : Region.wanted o (yielded ops a.tmps) = true := by simp [Region.wanted, hgd]
  rw [if_pos hw]
  obtain ⟨i0, hi0, hi1, hi2, hi3⟩ := piece_info
  obtain ⟨v', w', hr, g1, g2, _, g3⟩ := run_append_own_at (P := Tryz.prog) w base 136 o.type _ i0 _ 1 24 Tryz.underlying136 hi0 hi1 hi2 hi3 rfl (by decide) v n xs hown ⟨g, 0, none⟩ 1 1 [u] rfl (fun j y hj => by
      rw [Go.WideShapes.add_plain, cell_of_row w g _ _ _ _ hg]
      match j, hj with
      | 0, hj => simpa using hj) (fun y hy => by simp at hy; subst hy; exact h1) (by simp only [maxLen]; omega) (by omega) hbase
  exact Lib.wp_append_run w s x _ _ ho v _ hs hx v' w' hr (h v' w' g1 g2 g3)

theorem own_apart {w : World} {b1 b2 e1 e2 n1 n2 : Nat} {v1 v2 : Value} {xs1 xs2 : List Value} (h1 : w.ownsRow b1 e1 1 v1 n1 xs1) (h2 : w.ownsRow b2 e2 1 v2 n2 xs2) (hne : e1 ≠ e2) : v1.ownBlock = none ∨ v1.ownBlock ≠ v2.ownBlock := by
  rcases h1.2 with ⟨rfl, _⟩ | ⟨g, cap, cur, rfl, _, hh, _⟩
  · exact .inl rfl
  · exact .inr (own_ne h2 hh (fun e => hne e.symm))
theorem own_set {w : World} {base e n g : Nat} {v : Value} {xs : List Value} {cs : Array Value} {t : TypeId} {fr : Nat × Nat} (h : w.ownsRow base e 1 v n xs) (hg : w.heap[g]? = some (.cells cs t fr)) (hne : e ≠ t) (i : Nat) (u : Value) : (w.setCell ⟨g, i, none⟩ u).ownsRow base e 1 v n xs := by
  have hn := own_ne h hg hne
  obtain ⟨h1, h2⟩ := h
  refine ⟨h1, ?_⟩
  rcases h2 with h2 | ⟨g', cap, cur, rfl, hb, hh, h3⟩
  · exact .inl h2
  · exact .inr ⟨g', cap, cur, rfl, hb, (heap_setCell_other w ⟨g, i, none⟩ g' u (fun e => hn (by show some g = some g'; exact congrArg some e.symm))).trans hh, h3⟩
theorem own_more {w : World} {b b' e n : Nat} {v : Value} {xs : List Value} (h : w.ownsRow b e 1 v n xs) (hb : b' ≤ b) : w.ownsRow b' e 1 v n xs := by
  obtain ⟨h1, h2⟩ := h
  refine ⟨h1, ?_⟩
  rcases h2 with h2 | ⟨g', cap, cur, rfl, hg, h3⟩
  · exact .inl h2
  · exact .inr ⟨g', cap, cur, rfl, by omega, h3⟩
theorem kept_grown {T : List TypeId} {a w w' : World} (h : Kept T a w) {base e n : Nat} {v : Value} {xs : List Value} (hown : w.ownsRow base e 1 v n xs) (hg : w.grownBy w' v.ownBlock) (he : e ∈ T) : Kept T a w' :=
  h.trans ⟨hg.size, fun i cs t fr hi ht => (hg.block i (block_lt hi) (own_ne hown hi (fun e' => ht (e' ▸ he)))).trans hi⟩

theorem wbytes_close {base bw k : Nat} {l b : List UInt8} {w w1 w2 : World} {pv x v2 : Value} {ps : List (List UInt8)} {vs : List Value} (hb : base ≤ bw) (hfl : ps.flatten = l) (hvl : vs.length = ps.length) (hkl : ps.length + l.length ≤ k)
    (hown : w.ownsRow base 47 1 pv vs.length vs) (hpc : ∀ (i : Nat) (x : Value) (b : List UInt8), vs[i]? = some x → ps[i]? = some b → w.ownsRow base 5 1 x b.length (bytesV b))
    (hrow : w.heap[bw]? = some (.cells #[pv, .int .i64 l.length, .bool false] 138 (0, 0)))
    (hb1 : Below w.drew.heap.size w.drew w1) (hown1 : w1.ownsRow w.drew.heap.size 5 1 x b.length (bytesV b)) (hg2 : (w1.alloc (.cells #[x] 47)).grownBy w2 pv.ownBlock) (hown2 : w2.ownsRow base 47 1 v2 (vs.length + 1) (vs ++ [x]))
    (hne : some bw ≠ pv.ownBlock) : WStep w ((w2.setCell ⟨bw, 0, none⟩ v2).setCell ⟨bw, 1, none⟩ (.int .i64 ((l.length : Int) + (b.length : Int)))) base bw (k + 1 + b.length) (some (l ++ b)) := by
  have hn2 : bw < w.heap.size := block_lt hrow
  have hbs : base ≤ w.heap.size := by omega
  have hrow2 : w2.heap[bw]? = some (.cells #[pv, .int .i64 l.length, .bool false] 138 (0, 0)) := (hg2.block bw (by have := hb1.size; simp at this ⊢; omega) hne).trans (row_allocW ((hb1.block bw hn2).trans hrow) _)
  have hown1' : (w1.alloc (.cells #[x] 47)).ownsRow base 47 1 pv vs.length vs := (own_below hown.drew hb1).alloc _
  have key : ∀ (i : Nat) (y : Value) (c : List UInt8), (vs ++ [x])[i]? = some y → (ps ++ [b])[i]? = some c → w2.ownsRow base 5 1 y c.length (bytesV c) := by
    intro i y c hy hc
    have h1 : (w1.alloc (.cells #[x] 47)).ownsRow base 5 1 y c.length (bytesV c) := by
      rcases Nat.lt_or_ge i vs.length with hi | hi
      · rw [List.getElem?_append_left hi] at hy
        rw [List.getElem?_append_left (by omega)] at hc
        exact (own_below (hpc i y c hy hc).drew hb1).alloc _
      · rw [List.getElem?_append_right hi] at hy
        rw [List.getElem?_append_right (by omega)] at hc
        rw [← hvl] at hc
        cases hj : i - vs.length with
        | zero =>
          rw [hj] at hy hc
          simp at hy hc
          subst hy; subst hc
          exact (own_more hown1 (by simpa using hbs)).alloc _
        | succ j => rw [hj] at hy; simp at hy
    exact h1.kept hg2 (own_apart h1 hown1' (by decide))
  refine ⟨⟨hb, v2, ps ++ [b], vs ++ [x], ?_, by rw [List.flatten_append, hfl]; simp, by simp [hvl], by simp; omega, ?_, ?_⟩, ?_, ?_⟩
  · rw [heap_setCell_same _ _ _ _ _ _ (heap_setCell_same _ _ _ _ _ _ hrow2)]
    simp
  · rw [List.length_append]
    exact own_set (own_set hown2 hrow2 (by decide) _ _) (heap_setCell_same _ _ _ _ _ _ hrow2) (by decide) _ _
  · intro i y c hy hc
    exact own_set (own_set (key i y c hy hc) hrow2 (by decide) _ _) (heap_setCell_same _ _ _ _ _ _ hrow2) (by decide) _ _
  · have h0 : Below base w w1 := (Below.refl base w).drew.trans (hb1.mono (by simpa using hbs))
    have h1 := h0.alloc (Nat.le_trans hbs h0.size) (.cells #[x] 47)
    exact ((h1.grown hg2 (Nat.le_trans hbs h1.size) (fun q hq => (hown.lt q hq).1)).setCell hb _).setCell hb _
  · have h0 : Kept WT w w1 := (⟨Nat.le_refl _, fun _ _ _ _ h _ => h⟩ : Kept WT w w.drew).trans (.of_below hb1)
    have h1 := kept_grown (h0.alloc (.cells #[x] 47)) hown1' hg2 (by simp [WT])
    exact (h1.setCell hrow2 (by simp [WT]) _).setCell (heap_setCell_same _ _ _ _ _ _ hrow2) (by simp [WT]) _

set_option maxRecDepth 4000 in
set_option maxHeartbeats 1000000 in
theorem wbytes_some (base bw k : Nat) (l : List UInt8) (v : Value) (b : List UInt8) (hk : k + 1 + b.length ≤ 536870912) (w : World) (h : IsW w base bw k (some l)) (hv : BS w v b) :
    Calls Tryz.prog 90 #[.pointer (some ⟨bw, 0, none⟩), v] w fun e w' => e = .returned (.pointer (some ⟨bw, 0, none⟩)) ∧ WStep w w' base bw (k + 1 + b.length) (some (l ++ b)) := by
  obtain ⟨hb, pv, ps, vs, hrow, hfl, hvl, hkl, hown, hpc⟩ := h
  have HV := Lib.hid hv
  have HR := Lib.hid hrow
  have HB := Lib.hid hb
  have HF := Lib.hid hfl
  have HVL := Lib.hid hvl
  have HK := Lib.hid hkl
  have HO := Lib.hid hown
  have HP := Lib.hid hpc
  obtain ⟨p, cap, rfl, g1, g2, g3⟩ := hv
  unfold maxLen at g2
  have hc0 : w.cell? ⟨bw, 0, none⟩ = some pv := cell_of_row w bw 0 _ _ _ hrow
  have hc1 : w.cell? ⟨bw, 1, none⟩ = some (.int .i64 l.length) := cell_of_row w bw 1 _ _ _ hrow
  have hc2 : w.cell? ⟨bw, 2, none⟩ = some (.bool false) := cell_of_row w bw 2 _ _ _ hrow
  have hfr := fun j => frozen_of_row w bw j _ _ hrow
  have hl1 : (l.length : Int) + (b.length : Int) ≤ 536870912 := by omega
  have HBL := Lib.hid (show b.length ≤ 1073741824 by omega)
  clear hrow hfl hvl hkl hown hpc g3
  generalize hbn : b.length = n at *
  generalize hln : l.length = m at *
  have HBN := Lib.hid hbn; clear hbn
  have HLN := Lib.hid hln; clear hln
  go_enter Tryz.func90, Tryz.ntmps90
  go_wp2_with fail
  have hn2 : bw < w.heap.size := block_lt HR.out
  have HNE : Hid (some bw ≠ pv.ownBlock) := Lib.hid (own_ne HO.out HR.out (by decide))
  have hsum : IntKind.i64.wrap ((m : Int) + (n : Int)) = (m : Int) + (n : Int) := by rw [IntKind.wrap_i64]; omega
  have HVN : Hid (vs.length + 1 ≤ 1099511627776) := Lib.hid (by have := HVL.out; have := HK.out; omega)
  go_region_law (first
    | (go_simp; go_at_call 111; refine (clone_any _ b (by rw [HBN.out]; exact HBL.out) _ HV.out.drew).mono ?_; rintro e w1 ⟨v1, rfl, hown1, hb1⟩; obtain ⟨q1, c1, rfl⟩ := own_form hown1; have hcl0 := hb1.cell (p := ⟨bw, 0, none⟩) hn2; have hcl1 := hb1.cell (p := ⟨bw, 1, none⟩) hn2; have hz1 : bw < w1.heap.size := Nat.lt_of_lt_of_le hn2 hb1.size)
    | (refine step_append_piece rfl _ _ rfl base pv _ _ rfl ((own_below HO.out.drew hb1).alloc _) w1.heap.size _ rfl (new_rowW _ _ _ rfl) rfl HVN.out (by have := HB.out; simp; omega) ?_; intro v2 w2 hown2 hg2 hat2; obtain ⟨q2, c2, rfl⟩ := own_form hown2; have hd0 := hg2.cell ((World.cell?_alloc_lt _ _ ⟨bw, 0, none⟩ hz1).trans (hcl0.trans hc0)) HNE.out; have hd1 := hg2.cell ((World.cell?_alloc_lt _ _ ⟨bw, 1, none⟩ hz1).trans (hcl1.trans hc1)) HNE.out; have hrow2 := (hg2.block bw (by simp; omega) HNE.out).trans (row_allocW ((hb1.block bw hn2).trans HR.out) _); have HR2 := Lib.hid hrow2; have hfz := fun j => frozen_of_row w2 bw j _ _ hrow2; clear hrow2))
  all_goals
    have HC := Lib.hid (wbytes_close (b := b) HB.out HF.out HVL.out (by rw [HLN.out]; exact HK.out) HO.out HP.out (by rw [HLN.out]; exact HR.out) hb1 hown1 hg2 hown2 HNE.out)
    rw [HLN.out, HBN.out] at HC
    clear hown1 hb1 hg2 hown2 hat2 hcl0 hcl1
    go_wp2
    go_ret
    exact ⟨rfl, HC.out⟩
end Go.Proofs.YtbmphlpmipkpcaaGreat
