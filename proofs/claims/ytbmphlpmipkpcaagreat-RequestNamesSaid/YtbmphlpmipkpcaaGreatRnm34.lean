/- Contracts of package wire's Reader: Read, well, Left, Fail, Bytes, End. -/
import Derived.Test.YtbmphlpmipkpcaaGreatRnm6
import Derived.Test.YtbmphlpmipkpcaaGreatRnm13
import Derived.Deep.RegionHeld3

set_option linter.unusedVariables false
set_option linter.unusedSimpArgs false
namespace Go.Proofs.YtbmphlpmipkpcaaGreat
open Go.RowKit

def RT : List TypeId := [164]
/-- a reader at a block, of blocks of its own from base on: what is left (none: it failed) -/
def IsR (w : World) (base br : Nat) (st : Option (List UInt8)) : Prop :=
  base ≤ br ∧ ∃ (g cap at_ : Nat) (bad : Bool) (L : List UInt8), w.heap[br]? = some (.cells #[.slice (some ⟨g, 0, none⟩) L.length cap, .int .i64 (at_ : Int), .bool bad] 164 (0, 0)) ∧
    w.ownsRow base 5 1 (.slice (some ⟨g, 0, none⟩) L.length cap) L.length (bytesV L) ∧ at_ ≤ L.length ∧ L.length ≤ 1073741824 ∧ st = if bad then none else some (L.drop at_)
/-- what a reader's method leaves -/
def RStep (w w' : World) (base br : Nat) (st : Option (List UInt8)) : Prop := IsR w' base br st ∧ Below base w w' ∧ Kept RT w w'
theorem IsR.below {w w' : World} {base br : Nat} {st : Option (List UInt8)} (h : IsR w base br st) (hw : Below w.heap.size w w') : IsR w' base br st := by
  obtain ⟨hb, g, cap, a, bad, L, h1, h2, h3⟩ := h
  exact ⟨hb, g, cap, a, bad, L, (hw.block br (block_lt h1)).trans h1, own_below h2 hw, h3⟩
theorem IsR.lt {w : World} {base br : Nat} {st : Option (List UInt8)} (h : IsR w base br st) : base ≤ br ∧ br < w.heap.size := by
  obtain ⟨hb, g, cap, a, bad, L, h1, _⟩ := h
  exact ⟨hb, block_lt h1⟩
theorem nil_ne (w : World) (a : Option Addr) (n c n' c' : Nat) : (binOp .neq 47 (.slice a n c) (.slice none n' c')).run Tryz.prog w = .ok (.bool (!a.isNone)) w := by
  simp only [binOp]
  simp [Op.equal, Op.maxDepth, Lib.run_equalIn_slice_nil w 9999 47 5 a n c n' c' Tryz.underlying47]

set_option maxRecDepth 4000 in
set_option maxHeartbeats 400000 in
theorem read_any (v : Value) (b : List UInt8) (hl : b.length ≤ 1073741824) (w : World) (hv : BS w v b) :
    Calls Tryz.prog 49 #[v] w fun e w' => ∃ br, e = .returned (.pointer (some ⟨br, 0, none⟩)) ∧ IsR w' w.heap.size br (some b) ∧ Below w.heap.size w w' := by
  have HV := Lib.hid hv
  obtain ⟨p, cap, rfl, g1, g2, -⟩ := hv
  generalize hn : b.length = n at *
  have HN := Lib.hid hn; clear hn
  go_enter Tryz.func49, Tryz.ntmps49
  go_wp2_with (at_builtin; refine wpList_append_bytes rfl _ _ rfl w.heap.size _ 0 [] rfl (own_of_row (new_rowW _ _ _ rfl) (Nat.le_refl _)) _ b rfl (HV.out.alloc _) (by have := HN.out; omega) (by simp) ?_)
  intro v1 w1 hown1 hg1 hn1 hat1
  have HB : Hid (Below w.heap.size w w1) := Lib.hid (((Below.refl w.heap.size w).alloc (Nat.le_refl _) _).grown hg1 (by simp) (fun b hb => by injection hb with hb; simp at hb; omega))
  rw [HN.out] at hown1
  have hform : ∃ g c, v1 = .slice (some ⟨g, 0, none⟩) n c := by
    rcases hown1.2 with ⟨h, _⟩ | ⟨g, c, cur, h, _⟩
    · exact absurd h hn1
    · exact ⟨g, c, h⟩
  obtain ⟨g, c, rfl⟩ := hform
  have HO := Lib.hid hown1
  clear hown1 hg1 hn1 hat1
  go_wp2
  go_ret
  refine ⟨_, rfl, ⟨HB.out.size, g, c, 0, false, b, ?_, ?_, Nat.zero_le _, by rw [HN.out]; exact hl, rfl⟩, HB.out.alloc HB.out.size _⟩
  · rw [HN.out]; exact new_rowW _ _ _ rfl
  · rw [HN.out]; exact HO.out.alloc _

set_option maxHeartbeats 400000 in
theorem rwell_any (base br : Nat) (st : Option (List UInt8)) (w : World) (h : IsR w base br st) :
    Calls Tryz.prog 109 #[.pointer (some ⟨br, 0, none⟩)] w fun e w' => e = .returned (.bool st.isSome) ∧ w = w' := by
  obtain ⟨-, g, cap, a, bad, L, h1, -, -, -, rfl⟩ := h
  have hc0 : w.cell? ⟨br, 0, none⟩ = some (.slice (some ⟨g, 0, none⟩) L.length cap) := cell_of_row w br 0 _ _ _ h1
  have hc2 : w.cell? ⟨br, 2, none⟩ = some (.bool bad) := cell_of_row w br 2 _ _ _ h1
  have hn := fun W => nil_ne W (some ⟨g, 0, none⟩) L.length cap 0 0
  clear h1
  generalize L.length = n at *
  have HS : Hid ((if bad = true then none else some (L.drop a)).isSome = !bad) := Lib.hid (by cases bad <;> rfl)
  rw [HS.out]
  clear HS
  go_enter Tryz.func109, Tryz.ntmps109
  go_wp2
  go_ret
  exact ⟨rfl, rfl⟩

theorem ret_intR {k : IntKind} {a b : Int} (h : a = b) : Ending.returned (.int k a) = .returned (.int k b) := by rw [h]
def rLen (st : Option (List UInt8)) : Nat := (st.getD []).length
set_option maxHeartbeats 400000 in
theorem rleft_any (base br : Nat) (st : Option (List UInt8)) (w : World) (h : IsR w base br st) :
    Calls Tryz.prog 110 #[.pointer (some ⟨br, 0, none⟩)] w fun e w' => e = .returned (.int .i64 (rLen st)) ∧ ∃ n, w' = w.drewN n := by
  have HW := Lib.hid (rwell_any base br st w h)
  obtain ⟨-, g, cap, a, bad, L, h1, -, ha, hL, rfl⟩ := h
  have hc0 : w.cell? ⟨br, 0, none⟩ = some (.slice (some ⟨g, 0, none⟩) L.length cap) := cell_of_row w br 0 _ _ _ h1
  have hc1 : w.cell? ⟨br, 1, none⟩ = some (.int .i64 (a : Int)) := cell_of_row w br 1 _ _ _ h1
  clear h1
  cases bad
  · have HS2 : Hid ((rLen (if false = true then none else some (L.drop a)) : Int) = (L.length : Int) - (a : Int)) := Lib.hid (by
      show ((rLen (some (L.drop a)) : Nat) : Int) = _
      unfold rLen
      simp; omega)
    generalize L.length = n at *
    go_enter Tryz.func110, Tryz.ntmps110
    go_wp2_with fail
    refine HW.out.mono ?_
    rintro e w1 ⟨rfl, rfl⟩
    go_wp2_with fail
    go_quiet (fail)
    go_wp2
    go_ret
    exact ⟨ret_intR HS2.out.symm, _, rfl⟩
  · go_enter Tryz.func110, Tryz.ntmps110
    go_wp2_with fail
    refine HW.out.mono ?_
    rintro e w1 ⟨rfl, rfl⟩
    go_wp2
    go_ret
    exact ⟨rfl, 0, rfl⟩

set_option maxHeartbeats 400000 in
theorem rfail_any (base br : Nat) (st : Option (List UInt8)) (w : World) (h : IsR w base br st) :
    Calls Tryz.prog 105 #[.pointer (some ⟨br, 0, none⟩)] w fun e w' => e = .returned (.tuple #[]) ∧ RStep w w' base br none := by
  obtain ⟨hb, g, cap, a, bad, L, h1, hown, ha, hL, -⟩ := h
  have HR := Lib.hid h1
  have HO := Lib.hid hown
  have hc0 := fun j => cell_of_row w br j _ _ _ h1
  have hf := fun j => frozen_of_row w br j _ _ h1
  clear h1 hown
  go_enter Tryz.func105, Tryz.ntmps105
  go_wp2
  go_end0
  refine ⟨rfl, ⟨hb, g, cap, a, true, L, ?_, own_set HO.out HR.out (by decide) _ _, ha, hL, rfl⟩, (Below.refl _ _).setCell hb _, (Kept.refl _ _).setCell HR.out (by simp [RT]) _⟩
  rw [heap_setCell_same _ _ _ _ _ _ HR.out]
  rfl

set_option maxHeartbeats 400000 in
theorem rend_any (base br : Nat) (st : Option (List UInt8)) (w : World) (h : IsR w base br st) :
    Calls Tryz.prog 57 #[.pointer (some ⟨br, 0, none⟩)] w fun e w' => e = .returned (.int .i64 (if st = some [] then 0 else 4)) ∧ ∃ n, w' = w.drewN n := by
  have HLF := Lib.hid (rleft_any base br st w h)
  obtain ⟨-, g, cap, a, bad, L, h1, -, ha, hL, rfl⟩ := h
  have hc0 : w.cell? ⟨br, 0, none⟩ = some (.slice (some ⟨g, 0, none⟩) L.length cap) := cell_of_row w br 0 _ _ _ h1
  have hc2 : w.cell? ⟨br, 2, none⟩ = some (.bool bad) := cell_of_row w br 2 _ _ _ h1
  have hn := fun W => nil_eq W (some ⟨g, 0, none⟩) L.length cap 0 0
  clear h1
  cases bad
  · have HLL : Hid (L.drop a = [] ↔ rLen (some (L.drop a)) = 0) := Lib.hid (by unfold rLen; simp; omega)
    rw [show (if false = true then none else some (L.drop a)) = some (L.drop a) from rfl] at *
    have HQ : Hid ((if some (L.drop a) = some [] then (0 : Int) else 4) = if rLen (some (L.drop a)) = 0 then 0 else 4) := Lib.hid (by
      by_cases h : L.drop a = []
      · rw [if_pos (by rw [h]), if_pos (HLL.out.1 h)]
      · rw [if_neg (by simpa using h), if_neg (fun h' => h (HLL.out.2 h'))])
    rw [HQ.out]
    generalize rLen (some (L.drop a)) = m at *
    generalize L.length = n at *
    clear HQ HLL
    rcases Nat.eq_zero_or_pos m with rfl | hm
    · go_enter Tryz.func57, Tryz.ntmps57
      go_wp2_with fail
      refine HLF.out.mono ?_
      rintro e w1 ⟨rfl, k, rfl⟩
      go_wp2
      go_ret
      exact ⟨rfl, k, rfl⟩
    · rw [if_neg (by omega)]
      go_enter Tryz.func57, Tryz.ntmps57
      go_wp2_with fail
      refine HLF.out.mono ?_
      rintro e w1 ⟨rfl, k, rfl⟩
      go_wp2
      go_ret
      exact ⟨rfl, k, rfl⟩
  · generalize L.length = n at *
    go_enter Tryz.func57, Tryz.ntmps57
    go_wp2
    go_ret
    exact ⟨rfl, 0, rfl⟩

/-- what is taken off: so many bytes -/
def rTake (st : Option (List UInt8)) (n : Int) : Option (List UInt8) := match st with | none => none | some l => if 0 ≤ n ∧ n ≤ l.length then some (l.take n.toNat) else none
def rRest (st : Option (List UInt8)) (n : Int) : Option (List UInt8) := match st with | none => none | some l => if 0 ≤ n ∧ n ≤ l.length then some (l.drop n.toNat) else none

theorem IsR.drewN {w : World} {base br : Nat} {st : Option (List UInt8)} (h : IsR w base br st) (n : Nat) : IsR (w.drewN n) base br st := h.below ⟨rfl, rfl, rfl, Nat.le_refl _, fun _ _ => rfl⟩
theorem own_cut {w : World} {base g N cap a n : Nat} {L : List UInt8} (h : w.ownsRow base 5 1 (.slice (some ⟨g, 0, none⟩) N cap) N (bytesV L)) (hn : a + n ≤ N) (o c : Nat) (ho : n = 0 ∨ o = a) (hc : n ≤ c) (hcm : c ≤ maxLen) :
    BS w (.slice (some ⟨g, o, none⟩) n c) ((L.drop a).take n) := by
  have hlen : L.length = N := by have := h.1; rw [bytesV_length] at this; omega
  have hll : ((L.drop a).take n).length = n := by rw [List.length_take, List.length_drop]; omega
  refine ⟨_, c, by rw [hll], by omega, hcm, fun hne => ⟨g, o, rfl, ?_, fun i x hx => ?_⟩⟩
  · exact (h.lt g rfl).2
  · have hi : i < n := by have := (List.getElem?_eq_some_iff.1 hx).1; omega
    rcases ho with ho | ho
    · omega
    · subst ho
      rw [List.getElem?_take_of_lt hi, List.getElem?_drop] at hx
      have := h.cells (g := g) rfl (o + i) (.int .u8 (x.toNat : Int)) (by rw [bytesV_at, hx]; rfl)
      rwa [Go.WideShapes.add_plain, Nat.zero_add] at this

theorem rbytes_close {w W w2 : World} {base br n : Nat} {st : Option (List UInt8)} {v : Value} {l : List UInt8} (h : RStep w W base br st) (hsz : W.heap.size = w.heap.size) (hown : w2.ownsRow W.drew.heap.size 5 1 v n (bytesV l)) (hb : Below W.drew.heap.size W.drew w2) (hbase : base ≤ w.heap.size) :
    w2.ownsRow w.heap.size 5 1 v n (bytesV l) ∧ RStep w w2 base br st ∧ ∀ w3, Below w.heap.size w2 w3 → IsR w3 base br st := by
  have h1 : Below W.heap.size W w2 := (Below.refl _ _).drew.trans hb
  exact ⟨by rw [← hsz]; exact hown, ⟨h.1.below h1, h.2.1.trans (h1.mono (by omega)), h.2.2.trans (.of_below h1)⟩, fun w3 h3 => h.1.below (h1.trans (h3.mono (by omega)))⟩
theorem run_cut (g N cap a n : Nat) (h : a + n ≤ cap) : ∃ o, (n = 0 ∨ o = a) ∧ ∀ W : World, (Instr.slice 47 (.slice (some ⟨g, 0, none⟩) N cap) (some (.int .i64 (a : Int))) (some (.int .i64 ((a : Int) + (n : Int)))) none).run Tryz.prog W = .ok (.slice (some ⟨g, o, none⟩) n (cap - a)) W := by
  have ht : Tryz.prog.underlying 47 = some (.slice (Tryz.prog.elem 47)) := by kernel_rfl
  have hz : ∀ W : World, (sizeOf (Tryz.prog.elem 47)).run Tryz.prog W = .ok 1 W := fun W => by
    rw [show Tryz.prog.elem 47 = 5 from by kernel_rfl]; simp [go_sem]
  by_cases hc : a = cap
  · refine ⟨0, .inl (by omega), fun W => ?_⟩
    rw [run_slice_lh W _ _ _ _ ht _ _ _ _ (by omega) (by omega) (by omega), hz]
    obtain rfl : n = 0 := by omega
    subst hc
    simp [sliced, Result.andThen]
  · refine ⟨a, .inr rfl, fun W => ?_⟩
    rw [run_slice_lh W _ _ _ _ ht _ _ _ _ (by omega) (by omega) (by omega), hz]
    have h1 : ¬ cap - a = 0 := by omega
    have h2 : ((a : Int) + (n : Int)).toNat - a = n := by omega
    simp [sliced, Result.andThen, h1, h2, Go.WideShapes.add_plain]
    intro e; omega

set_option maxRecDepth 4000 in
set_option maxHeartbeats 1000000 in
theorem rbytes_fit (base br : Nat) (l : List UInt8) (n : Nat) (hn : n ≤ l.length) (w : World) (h : IsR w base br (some l)) :
    Calls Tryz.prog 55 #[.pointer (some ⟨br, 0, none⟩), .int .i64 (n : Int)] w fun e w' => ∃ v, e = .returned v ∧ w'.ownsRow w.heap.size 5 1 v n (bytesV (l.take n)) ∧ RStep w w' base br (some (l.drop n)) ∧ ∀ w3, Below w.heap.size w' w3 → IsR w3 base br (some (l.drop n)) := by
  have HWE := Lib.hid (rwell_any base br _ w h)
  have HLF := Lib.hid (rleft_any base br _ w h)
  obtain ⟨hb, g, cap, a, bad, L, h1, hown, ha, hL, hst⟩ := h
  have hbad : bad = false := by cases bad with | false => rfl | true => cases hst
  subst hbad
  have hl : l = L.drop a := by injection hst
  have hll : L.length = a + l.length := by rw [hl, List.length_drop]; omega
  have HR := Lib.hid h1
  have HO := Lib.hid hown
  have HB := Lib.hid hb
  have HLD : Hid (l.take n = (L.drop a).take n ∧ l.drop n = L.drop (a + n)) := Lib.hid ⟨by rw [hl], by rw [hl, List.drop_drop]⟩
  have hc0 := fun j => cell_of_row w br j _ _ _ h1
  have hf := fun j => frozen_of_row w br j _ _ h1
  have hrl : rLen (some l) = l.length := rfl
  rw [hrl] at HLF
  clear h1 hown hst hl hrl
  generalize hm : l.length = m at *
  clear hm
  obtain ⟨N, hN⟩ : ∃ N, L.length = N := ⟨_, rfl⟩
  rw [hN] at hll hL
  have HN := Lib.hid hN
  rw [hN] at hc0
  clear hN
  have hown2 := HO.out
  rw [HN.out] at hown2
  have hcapb : N ≤ cap := by
    rcases hown2.2 with ⟨h, _⟩ | ⟨g', cap', cur, h, _, _, hnc, _⟩
    · cases h
    · injection h with _ _ h; omega
  have hcapm : cap ≤ 9223372036854775807 := by
    rcases hown2.2 with ⟨h, _⟩ | ⟨g', cap', cur, h, _, _, _, hcm, _⟩
    · cases h
    · injection h with _ _ h; unfold maxLen at hcm; omega
  clear hown2
  go_enter Tryz.func55, Tryz.ntmps55
  go_wp2_with fail
  refine HWE.out.mono ?_
  rintro e w1 ⟨rfl, rfl⟩
  go_wp2_with fail
  refine HLF.out.mono ?_
  rintro e w1 ⟨rfl, nd, rfl⟩
  go_wp2_with fail
  have hrow1 : ((w.drewN nd).setCell ⟨br, 1, none⟩ (.int .i64 ((a : Int) + (n : Int)))).heap[br]? = some (.cells #[.slice (some ⟨g, 0, none⟩) L.length cap, .int .i64 (((a + n : Nat)) : Int), .bool false] 164 (0, 0)) := by
    rw [heap_setCell_same (w.drewN nd) br 1 _ _ _ HR.out]
    simp
  have HOW : Hid (((w.drewN nd).setCell ⟨br, 1, none⟩ (.int .i64 ((a : Int) + (n : Int)))).ownsRow base 5 1 (.slice (some ⟨g, 0, none⟩) L.length cap) L.length (bytesV L)) := Lib.hid (own_set (w := w.drewN nd) HO.out HR.out (by decide) _ _)
  have HST : Hid (RStep w ((w.drewN nd).setCell ⟨br, 1, none⟩ (.int .i64 ((a : Int) + (n : Int)))) base br (some (l.drop n))) := Lib.hid
    ⟨⟨HB.out, g, cap, a + n, false, L, hrow1, HOW.out, by have := HN.out; omega, by have := HN.out; omega, by rw [HLD.out.2]; rfl⟩, ((below_drewN w nd).mono (by have := block_lt HR.out; have := HB.out; omega)).setCell HB.out _,
      (Kept.of_below (below_drewN w nd)).setCell (w := w.drewN nd) HR.out (by simp [RT]) _⟩
  have hsz : ((w.drewN nd).setCell ⟨br, 1, none⟩ (.int .i64 ((a : Int) + (n : Int)))).heap.size = w.heap.size := by simp
  rw [HN.out] at HOW hrow1
  have hbr := block_lt HR.out
  generalize (w.drewN nd).setCell ⟨br, 1, none⟩ (.int .i64 ((a : Int) + (n : Int))) = W at *
  have d0 : W.cell? ⟨br, 0, none⟩ = some (.slice (some ⟨g, 0, none⟩) N cap) := cell_of_row W br 0 _ _ _ hrow1
  have d1 : W.cell? ⟨br, 1, none⟩ = some (.int .i64 ((a : Int) + (n : Int))) := cell_of_row W br 1 _ _ _ hrow1
  have hbr2 : br < W.heap.size := by omega
  have hw1 : IntKind.i64.wrap ((a : Int) + (n : Int) - (n : Int)) = (a : Int) := by rw [IntKind.wrap_i64]; omega
  have hw2 : IntKind.i64.wrap (a : Int) = (a : Int) := by rw [IntKind.wrap_i64]; omega
  have HLN : Hid (((L.drop a).take n).length = n) := Lib.hid (by rw [List.length_take, List.length_drop, HN.out]; omega)
  clear hrow1 hf hc0
  have HCUT := Lib.hid (fun (W' : World) (h : W'.ownsRow base 5 1 (.slice (some ⟨g, 0, none⟩) N cap) N (bytesV L)) o c ho hc hcm => own_cut (a := a) (n := n) h (by omega) o c ho hc hcm)
  have j1 : (0 : Int) ≤ (a : Int) := by omega
  have j2 : (a : Int) ≤ (a : Int) + (n : Int) := by omega
  have j3 : (a : Int) + (n : Int) ≤ (cap : Int) := by omega
  have j4 : ((a : Int) + (n : Int)).toNat - a = n := by omega
  by_cases hca : cap = a
  · have hn0 : n = 0 := by omega
    have HZ : Hid (∀ W', BS W' (.slice (some ⟨g, 0, none⟩) 0 0) ((L.drop a).take n)) := Lib.hid (fun W' => by
      rw [hn0, List.take_zero]
      exact ⟨_, 0, rfl, Nat.le_refl _, Nat.zero_le _, fun h => absurd rfl h⟩)
    go_region_held3 (fun w' => w'.cell? ⟨br, 0, none⟩ = some (.slice (some ⟨g, 0, none⟩) N cap) ∧ w'.cell? ⟨br, 1, none⟩ = some (.int .i64 ((a : Int) + (n : Int)))) (go_keep) (first
      | (go_at_call 111; refine (clone_any _ ((L.drop a).take n) (by rw [HLN.out]; omega) _ (HZ.out _)).mono ?_; rintro e w2 ⟨v2, rfl, hown2, hb2⟩; have f0 := hb2.cell (p := ⟨br, 0, none⟩) hbr2; have f1 := hb2.cell (p := ⟨br, 1, none⟩) hbr2))
    all_goals
      have HF := Lib.hid (rbytes_close HST.out hsz (by rw [HLN.out] at hown2; exact hown2) hb2 (by have := HB.out; omega))
      rw [← HLD.out.1] at HF
      clear hown2 hb2 f0 f1
      go_wp2
      go_ret
      exact ⟨_, rfl, HF.out.1, HF.out.2⟩
  · go_region_held3 (fun w' => w'.cell? ⟨br, 0, none⟩ = some (.slice (some ⟨g, 0, none⟩) N cap) ∧ w'.cell? ⟨br, 1, none⟩ = some (.int .i64 ((a : Int) + (n : Int)))) (go_keep) (first
      | (go_at_call 111; refine (clone_any _ ((L.drop a).take n) (by rw [HLN.out]; omega) _ (HCUT.out _ HOW.out.drew a (cap - a) (.inr rfl) (by omega) (by unfold maxLen; omega))).mono ?_; rintro e w2 ⟨v2, rfl, hown2, hb2⟩; have f0 := hb2.cell (p := ⟨br, 0, none⟩) hbr2; have f1 := hb2.cell (p := ⟨br, 1, none⟩) hbr2))
    all_goals
      have HF := Lib.hid (rbytes_close HST.out hsz (by rw [HLN.out] at hown2; exact hown2) hb2 (by have := HB.out; omega))
      rw [← HLD.out.1] at HF
      clear hown2 hb2 f0 f1
      go_wp2
      go_ret
      exact ⟨_, rfl, HF.out.1, HF.out.2⟩
end Go.Proofs.YtbmphlpmipkpcaaGreat
