/- Contracts of package wire's Reader: Read, well, Left, Fail, Bytes, End. Contracts of package wire's Reader: Bytes of whatever number, Number, Int, Flag, Blob, Text, Count. Contracts of package wire's Reader: Number of any size, Int, Flag, Blob, Text, Count. -/
import Derived.Test.YtmadkfahkbdibaaWirK
import Derived.Deep.RegionHeld3
import Derived.Laws.BitsAllLaws
set_option linter.unusedVariables false
set_option linter.unusedSimpArgs false
namespace Go.Proofs.Ytmadkfahkbdibaa
open Go.RowKit

def RT : List TypeId := [169]
/-- a reader at a block, of blocks of its own from base on: what is left (none: it failed) -/
def IsR (w : World) (base br : Nat) (st : Option (List UInt8)) : Prop :=
  base ≤ br ∧ ∃ (g cap at_ : Nat) (bad : Bool) (L : List UInt8), w.heap[br]? = some (.cells #[.slice (some ⟨g, 0, none⟩) L.length cap, .int .i64 (at_ : Int), .bool bad] 169 (0, 0)) ∧
    w.ownsRow base 5 1 (.slice (some ⟨g, 0, none⟩) L.length cap) L.length (bytesV L) ∧ at_ ≤ L.length ∧ L.length ≤ 1073741824 ∧ st = if bad then none else some (L.drop at_)
/-- what a reader's method leaves -/
def RStep (w w' : World) (base br : Nat) (st : Option (List UInt8)) : Prop := IsR w' base br st ∧ Below base w w' ∧ Kept RT w w'
theorem IsR.below {w w' : World} {base br : Nat} {st : Option (List UInt8)} (h : IsR w base br st) (hw : Below w.heap.size w w') : IsR w' base br st := by
  obtain ⟨hb, g, cap, a, bad, L, h1, h2, h3⟩ := h
  exact ⟨hb, g, cap, a, bad, L, (hw.block br (block_lt h1)).trans h1, own_below h2 hw, h3⟩
theorem IsR.lt {w : World} {base br : Nat} {st : Option (List UInt8)} (h : IsR w base br st) : base ≤ br ∧ br < w.heap.size := by
  obtain ⟨hb, g, cap, a, bad, L, h1, _⟩ := h
  exact ⟨hb, block_lt h1⟩
theorem nil_ne (w : World) (a : Option Addr) (n c n' c' : Nat) : (binOp .neq 52 (.slice a n c) (.slice none n' c')).run Try.prog w = .ok (.bool (!a.isNone)) w := by
  simp only [binOp]
  simp [Op.equal, Op.maxDepth, Lib.run_equalIn_slice_nil w 9999 52 5 a n c n' c' Try.underlying52]

set_option maxRecDepth 4000 in
set_option maxHeartbeats 400000 in
theorem read_any (v : Value) (b : List UInt8) (hl : b.length ≤ 1073741824) (w : World) (hv : BS w v b) :
    Calls Try.prog 70 #[v] w fun e w' => ∃ br, e = .returned (.pointer (some ⟨br, 0, none⟩)) ∧ IsR w' w.heap.size br (some b) ∧ Below w.heap.size w w' := by
  have HV := Lib.hid hv
  obtain ⟨p, cap, rfl, g1, g2, -⟩ := hv
  generalize hn : b.length = n at *
  have HN := Lib.hid hn; clear hn
  go_enter Try.func70, Try.ntmps70
  go_wp2_with (at_builtin; refine wpList_append_bytes rfl _ _ rfl w.heap.size _ 0 [] rfl (own_of_row (new_rowW _ _ _ rfl) (Nat.le_refl _)) _ b rfl (HV.out.alloc _) (by have := HN.out; omega) (by simp) ?_)
  intro v1 w1 hown1 hg1 hn1 hat1
  have HB : Hid (Below w.heap.size w w1) := Lib.hid (((Below.refl w.heap.size w).alloc (Nat.le_refl _) _).grown hg1 (by simp) (fun b hb => by injection hb with hb; simp at hb; omega))
  rw [HN.out] at hown1
  have hform : ∃ g c, v1 = .slice (some ⟨g, 0, none⟩) n c := by
    rcases hown1.2 with ⟨h, _⟩ | ⟨g, c, cur, h, _⟩
    · exact absurd h hn1
    · exact ⟨g, c, h⟩
  obtain ⟨g, c, rfl⟩ := hform
  have HO := Lib.hid hown1
  clear hown1 hg1 hn1 hat1
  go_wp2
  go_ret
  refine ⟨_, rfl, ⟨HB.out.size, g, c, 0, false, b, ?_, ?_, Nat.zero_le _, by rw [HN.out]; exact hl, rfl⟩, HB.out.alloc HB.out.size _⟩
  · rw [HN.out]; exact new_rowW _ _ _ rfl
  · rw [HN.out]; exact HO.out.alloc _

set_option maxHeartbeats 400000 in
theorem rwell_any (base br : Nat) (st : Option (List UInt8)) (w : World) (h : IsR w base br st) :
    Calls Try.prog 164 #[.pointer (some ⟨br, 0, none⟩)] w fun e w' => e = .returned (.bool st.isSome) ∧ w = w' := by
  obtain ⟨-, g, cap, a, bad, L, h1, -, -, -, rfl⟩ := h
  have hc0 : w.cell? ⟨br, 0, none⟩ = some (.slice (some ⟨g, 0, none⟩) L.length cap) := cell_of_row w br 0 _ _ _ h1
  have hc2 : w.cell? ⟨br, 2, none⟩ = some (.bool bad) := cell_of_row w br 2 _ _ _ h1
  have hn := fun W => nil_ne W (some ⟨g, 0, none⟩) L.length cap 0 0
  clear h1
  generalize L.length = n at *
  have HS : Hid ((if bad = true then none else some (L.drop a)).isSome = !bad) := Lib.hid (by cases bad <;> rfl)
  rw [HS.out]
  clear HS
  go_enter Try.func164, Try.ntmps164
  go_wp2
  go_ret
  exact ⟨rfl, rfl⟩

theorem ret_intR {k : IntKind} {a b : Int} (h : a = b) : Ending.returned (.int k a) = .returned (.int k b) := by rw [h]
def rLen (st : Option (List UInt8)) : Nat := (st.getD []).length
set_option maxHeartbeats 400000 in
theorem rleft_any (base br : Nat) (st : Option (List UInt8)) (w : World) (h : IsR w base br st) :
    Calls Try.prog 135 #[.pointer (some ⟨br, 0, none⟩)] w fun e w' => e = .returned (.int .i64 (rLen st)) ∧ ∃ n, w' = w.drewN n := by
  have HW := Lib.hid (rwell_any base br st w h)
  obtain ⟨-, g, cap, a, bad, L, h1, -, ha, hL, rfl⟩ := h
  have hc0 : w.cell? ⟨br, 0, none⟩ = some (.slice (some ⟨g, 0, none⟩) L.length cap) := cell_of_row w br 0 _ _ _ h1
  have hc1 : w.cell? ⟨br, 1, none⟩ = some (.int .i64 (a : Int)) := cell_of_row w br 1 _ _ _ h1
  clear h1
  cases bad
  · have HS2 : Hid ((rLen (if false = true then none else some (L.drop a)) : Int) = (L.length : Int) - (a : Int)) := Lib.hid (by
      show ((rLen (some (L.drop a)) : Nat) : Int) = _
      unfold rLen
      simp; omega)
    generalize L.length = n at *
    go_enter Try.func135, Try.ntmps135
    go_wp2_with fail
    refine HW.out.mono ?_
    rintro e w1 ⟨rfl, rfl⟩
    go_wp2_with fail
    go_quiet (fail)
    go_wp2
    go_ret
    exact ⟨ret_intR HS2.out.symm, _, rfl⟩
  · go_enter Try.func135, Try.ntmps135
    go_wp2_with fail
    refine HW.out.mono ?_
    rintro e w1 ⟨rfl, rfl⟩
    go_wp2
    go_ret
    exact ⟨rfl, 0, rfl⟩

set_option maxHeartbeats 400000 in
theorem rfail_any (base br : Nat) (st : Option (List UInt8)) (w : World) (h : IsR w base br st) :
    Calls Try.prog 173 #[.pointer (some ⟨br, 0, none⟩)] w fun e w' => e = .returned (.tuple #[]) ∧ RStep w w' base br none := by
  obtain ⟨hb, g, cap, a, bad, L, h1, hown, ha, hL, -⟩ := h
  have HR := Lib.hid h1
  have HO := Lib.hid hown
  have hc0 := fun j => cell_of_row w br j _ _ _ h1
  have hf := fun j => frozen_of_row w br j _ _ h1
  clear h1 hown
  go_enter Try.func173, Try.ntmps173
  go_wp2
  go_end0
  refine ⟨rfl, ⟨hb, g, cap, a, true, L, ?_, own_set HO.out HR.out (by decide) _ _, ha, hL, rfl⟩, (Below.refl _ _).setCell hb _, (Kept.refl _ _).setCell HR.out (by simp [RT]) _⟩
  rw [heap_setCell_same _ _ _ _ _ _ HR.out]
  rfl

set_option maxHeartbeats 400000 in
theorem rend_any (base br : Nat) (st : Option (List UInt8)) (w : World) (h : IsR w base br st) :
    Calls Try.prog 71 #[.pointer (some ⟨br, 0, none⟩)] w fun e w' => e = .returned (.int .i64 (if st = some [] then 0 else 4)) ∧ ∃ n, w' = w.drewN n := by
  have HLF := Lib.hid (rleft_any base br st w h)
  obtain ⟨-, g, cap, a, bad, L, h1, -, ha, hL, rfl⟩ := h
  have hc0 : w.cell? ⟨br, 0, none⟩ = some (.slice (some ⟨g, 0, none⟩) L.length cap) := cell_of_row w br 0 _ _ _ h1
  have hc2 : w.cell? ⟨br, 2, none⟩ = some (.bool bad) := cell_of_row w br 2 _ _ _ h1
  have hn := fun W => nil_eq W (some ⟨g, 0, none⟩) L.length cap 0 0
  clear h1
  cases bad
  · have HLL : Hid (L.drop a = [] ↔ rLen (some (L.drop a)) = 0) := Lib.hid (by unfold rLen; simp; omega)
    rw [show (if false = true then none else some (L.drop a)) = some (L.drop a) from rfl] at *
    have HQ : Hid ((if some (L.drop a) = some [] then (0 : Int) else 4) = if rLen (some (L.drop a)) = 0 then 0 else 4) := Lib.hid (by
      by_cases h : L.drop a = []
      · rw [if_pos (by rw [h]), if_pos (HLL.out.1 h)]
      · rw [if_neg (by simpa using h), if_neg (fun h' => h (HLL.out.2 h'))])
    rw [HQ.out]
    generalize rLen (some (L.drop a)) = m at *
    generalize L.length = n at *
    clear HQ HLL
    rcases Nat.eq_zero_or_pos m with rfl | hm
    · go_enter Try.func71, Try.ntmps71
      go_wp2_with fail
      refine HLF.out.mono ?_
      rintro e w1 ⟨rfl, k, rfl⟩
      go_wp2
      go_ret
      exact ⟨rfl, k, rfl⟩
    · rw [if_neg (by omega)]
      go_enter Try.func71, Try.ntmps71
      go_wp2_with fail
      refine HLF.out.mono ?_
      rintro e w1 ⟨rfl, k, rfl⟩
      go_wp2
      go_ret
      exact ⟨rfl, k, rfl⟩
  · generalize L.length = n at *
    go_enter Try.func71, Try.ntmps71
    go_wp2
    go_ret
    exact ⟨rfl, 0, rfl⟩

/-- what is taken off: so many bytes -/
def rTake (st : Option (List UInt8)) (n : Int) : Option (List UInt8) := match st with | none => none | some l => if 0 ≤ n ∧ n ≤ l.length then some (l.take n.toNat) else none
def rRest (st : Option (List UInt8)) (n : Int) : Option (List UInt8) := match st with | none => none | some l => if 0 ≤ n ∧ n ≤ l.length then some (l.drop n.toNat) else none

theorem IsR.drewN {w : World} {base br : Nat} {st : Option (List UInt8)} (h : IsR w base br st) (n : Nat) : IsR (w.drewN n) base br st := h.below ⟨rfl, rfl, rfl, Nat.le_refl _, fun _ _ => rfl⟩
theorem below_drewN (w : World) (n : Nat) : Below w.heap.size w (w.drewN n) := ⟨rfl, rfl, rfl, Nat.le_refl _, fun _ _ => rfl⟩

theorem own_cut {w : World} {base g N cap a n : Nat} {L : List UInt8} (h : w.ownsRow base 5 1 (.slice (some ⟨g, 0, none⟩) N cap) N (bytesV L)) (hn : a + n ≤ N) (o c : Nat) (ho : n = 0 ∨ o = a) (hc : n ≤ c) (hcm : c ≤ maxLen) :
    BS w (.slice (some ⟨g, o, none⟩) n c) ((L.drop a).take n) := by
  have hlen : L.length = N := by have := h.1; rw [bytesV_length] at this; omega
  have hll : ((L.drop a).take n).length = n := by rw [List.length_take, List.length_drop]; omega
  refine ⟨_, c, by rw [hll], by omega, hcm, fun hne => ⟨g, o, rfl, ?_, fun i x hx => ?_⟩⟩
  · exact (h.lt g rfl).2
  · have hi : i < n := by have := (List.getElem?_eq_some_iff.1 hx).1; omega
    rcases ho with ho | ho
    · omega
    · subst ho
      rw [List.getElem?_take_of_lt hi, List.getElem?_drop] at hx
      have := h.cells (g := g) rfl (o + i) (.int .u8 (x.toNat : Int)) (by rw [bytesV_at, hx]; rfl)
      rwa [Go.WideShapes.add_plain, Nat.zero_add] at this

theorem rbytes_close {w W w2 : World} {base br n : Nat} {st : Option (List UInt8)} {v : Value} {l : List UInt8} (h : RStep w W base br st) (hsz : W.heap.size = w.heap.size) (hown : w2.ownsRow W.drew.heap.size 5 1 v n (bytesV l)) (hb : Below W.drew.heap.size W.drew w2) (hbase : base ≤ w.heap.size) :
    w2.ownsRow w.heap.size 5 1 v n (bytesV l) ∧ RStep w w2 base br st ∧ ∀ w3, Below w.heap.size w2 w3 → IsR w3 base br st := by
  have h1 : Below W.heap.size W w2 := (Below.refl _ _).drew.trans hb
  exact ⟨by rw [← hsz]; exact hown, ⟨h.1.below h1, h.2.1.trans (h1.mono (by omega)), h.2.2.trans (.of_below h1)⟩, fun w3 h3 => h.1.below (h1.trans (h3.mono (by omega)))⟩
theorem run_cut (g N cap a n : Nat) (h : a + n ≤ cap) : ∃ o, (n = 0 ∨ o = a) ∧ ∀ W : World, (Instr.slice 52 (.slice (some ⟨g, 0, none⟩) N cap) (some (.int .i64 (a : Int))) (some (.int .i64 ((a : Int) + (n : Int)))) none).run Try.prog W = .ok (.slice (some ⟨g, o, none⟩) n (cap - a)) W := by
  have ht : Try.prog.underlying 52 = some (.slice (Try.prog.elem 52)) := by kernel_rfl
  have hz : ∀ W : World, (sizeOf (Try.prog.elem 52)).run Try.prog W = .ok 1 W := fun W => by
    rw [show Try.prog.elem 52 = 5 from by kernel_rfl]; simp [go_sem]
  by_cases hc : a = cap
  · refine ⟨0, .inl (by omega), fun W => ?_⟩
    rw [run_slice_lh W _ _ _ _ ht _ _ _ _ (by omega) (by omega) (by omega), hz]
    obtain rfl : n = 0 := by omega
    subst hc
    simp [sliced, Result.andThen]
  · refine ⟨a, .inr rfl, fun W => ?_⟩
    rw [run_slice_lh W _ _ _ _ ht _ _ _ _ (by omega) (by omega) (by omega), hz]
    have h1 : ¬ cap - a = 0 := by omega
    have h2 : ((a : Int) + (n : Int)).toNat - a = n := by omega
    simp [sliced, Result.andThen, h1, h2, Go.WideShapes.add_plain]
    intro e; omega

set_option maxRecDepth 4000 in
set_option maxHeartbeats 1000000 in
theorem rbytes_fit (base br : Nat) (l : List UInt8) (n : Nat) (hn : n ≤ l.length) (w : World) (h : IsR w base br (some l)) :
    Calls Try.prog 162 #[.pointer (some ⟨br, 0, none⟩), .int .i64 (n : Int)] w fun e w' => ∃ v, e = .returned v ∧ w'.ownsRow w.heap.size 5 1 v n (bytesV (l.take n)) ∧ RStep w w' base br (some (l.drop n)) ∧ ∀ w3, Below w.heap.size w' w3 → IsR w3 base br (some (l.drop n)) := by
  have HWE := Lib.hid (rwell_any base br _ w h)
  have HLF := Lib.hid (rleft_any base br _ w h)
  obtain ⟨hb, g, cap, a, bad, L, h1, hown, ha, hL, hst⟩ := h
  have hbad : bad = false := by cases bad with | false => rfl | true => cases hst
  subst hbad
  have hl : l = L.drop a := by injection hst
  have hll : L.length = a + l.length := by rw [hl, List.length_drop]; omega
  have HR := Lib.hid h1
  have HO := Lib.hid hown
  have HB := Lib.hid hb
  have HLD : Hid (l.take n = (L.drop a).take n ∧ l.drop n = L.drop (a + n)) := Lib.hid ⟨by rw [hl], by rw [hl, List.drop_drop]⟩
  have hc0 := fun j => cell_of_row w br j _ _ _ h1
  have hf := fun j => frozen_of_row w br j _ _ h1
  have hrl : rLen (some l) = l.length := rfl
  rw [hrl] at HLF
  clear h1 hown hst hl hrl
  generalize hm : l.length = m at *
  clear hm
  obtain ⟨N, hN⟩ : ∃ N, L.length = N := ⟨_, rfl⟩
  rw [hN] at hll hL
  have HN := Lib.hid hN
  rw [hN] at hc0
  clear hN
  have hown2 := HO.out
  rw [HN.out] at hown2
  have hcapb : N ≤ cap := by
    rcases hown2.2 with ⟨h, _⟩ | ⟨g', cap', cur, h, _, _, hnc, _⟩
    · cases h
    · injection h with _ _ h; omega
  have hcapm : cap ≤ 9223372036854775807 := by
    rcases hown2.2 with ⟨h, _⟩ | ⟨g', cap', cur, h, _, _, _, hcm, _⟩
    · cases h
    · injection h with _ _ h; unfold maxLen at hcm; omega
  clear hown2
  go_enter Try.func162, Try.ntmps162
  go_wp2_with fail
  refine HWE.out.mono ?_
  rintro e w1 ⟨rfl, rfl⟩
  go_wp2_with fail
  refine HLF.out.mono ?_
  rintro e w1 ⟨rfl, nd, rfl⟩
  go_wp2_with fail
  have hrow1 : ((w.drewN nd).setCell ⟨br, 1, none⟩ (.int .i64 ((a : Int) + (n : Int)))).heap[br]? = some (.cells #[.slice (some ⟨g, 0, none⟩) L.length cap, .int .i64 (((a + n : Nat)) : Int), .bool false] 169 (0, 0)) := by
    rw [heap_setCell_same (w.drewN nd) br 1 _ _ _ HR.out]
    simp
  have HOW : Hid (((w.drewN nd).setCell ⟨br, 1, none⟩ (.int .i64 ((a : Int) + (n : Int)))).ownsRow base 5 1 (.slice (some ⟨g, 0, none⟩) L.length cap) L.length (bytesV L)) := Lib.hid (own_set (w := w.drewN nd) HO.out HR.out (by decide) _ _)
  have HST : Hid (RStep w ((w.drewN nd).setCell ⟨br, 1, none⟩ (.int .i64 ((a : Int) + (n : Int)))) base br (some (l.drop n))) := Lib.hid
    ⟨⟨HB.out, g, cap, a + n, false, L, hrow1, HOW.out, by have := HN.out; omega, by have := HN.out; omega, by rw [HLD.out.2]; rfl⟩, ((below_drewN w nd).mono (by have := block_lt HR.out; have := HB.out; omega)).setCell HB.out _,
      (Kept.of_below (below_drewN w nd)).setCell (w := w.drewN nd) HR.out (by simp [RT]) _⟩
  have hsz : ((w.drewN nd).setCell ⟨br, 1, none⟩ (.int .i64 ((a : Int) + (n : Int)))).heap.size = w.heap.size := by simp
  rw [HN.out] at HOW hrow1
  have hbr := block_lt HR.out
  generalize (w.drewN nd).setCell ⟨br, 1, none⟩ (.int .i64 ((a : Int) + (n : Int))) = W at *
  have d0 : W.cell? ⟨br, 0, none⟩ = some (.slice (some ⟨g, 0, none⟩) N cap) := cell_of_row W br 0 _ _ _ hrow1
  have d1 : W.cell? ⟨br, 1, none⟩ = some (.int .i64 ((a : Int) + (n : Int))) := cell_of_row W br 1 _ _ _ hrow1
  have hbr2 : br < W.heap.size := by omega
  have hw1 : IntKind.i64.wrap ((a : Int) + (n : Int) - (n : Int)) = (a : Int) := by rw [IntKind.wrap_i64]; omega
  have hw2 : IntKind.i64.wrap (a : Int) = (a : Int) := by rw [IntKind.wrap_i64]; omega
  have HLN : Hid (((L.drop a).take n).length = n) := Lib.hid (by rw [List.length_take, List.length_drop, HN.out]; omega)
  clear hrow1 hf hc0
  have HCUT := Lib.hid (fun (W' : World) (h : W'.ownsRow base 5 1 (.slice (some ⟨g, 0, none⟩) N cap) N (bytesV L)) o c ho hc hcm => own_cut (a := a) (n := n) h (by omega) o c ho hc hcm)
  have j1 : (0 : Int) ≤ (a : Int) := by omega
  have j2 : (a : Int) ≤ (a : Int) + (n : Int) := by omega
  have j3 : (a : Int) + (n : Int) ≤ (cap : Int) := by omega
  have j4 : ((a : Int) + (n : Int)).toNat - a = n := by omega
  by_cases hca : cap = a
  · have hn0 : n = 0 := by omega
    have HZ : Hid (∀ W', BS W' (.slice (some ⟨g, 0, none⟩) 0 0) ((L.drop a).take n)) := Lib.hid (fun W' => by
      rw [hn0, List.take_zero]
      exact ⟨_, 0, rfl, Nat.le_refl _, Nat.zero_le _, fun h => absurd rfl h⟩)
    go_region_held3 (fun w' => w'.cell? ⟨br, 0, none⟩ = some (.slice (some ⟨g, 0, none⟩) N cap) ∧ w'.cell? ⟨br, 1, none⟩ = some (.int .i64 ((a : Int) + (n : Int)))) (go_keep) (first
      | (go_at_call 174; refine (clone_any _ ((L.drop a).take n) (by rw [HLN.out]; omega) _ (HZ.out _)).mono ?_; rintro e w2 ⟨v2, rfl, hown2, hb2⟩; have f0 := hb2.cell (p := ⟨br, 0, none⟩) hbr2; have f1 := hb2.cell (p := ⟨br, 1, none⟩) hbr2))
    all_goals
      have HF := Lib.hid (rbytes_close HST.out hsz (by rw [HLN.out] at hown2; exact hown2) hb2 (by have := HB.out; omega))
      rw [← HLD.out.1] at HF
      clear hown2 hb2 f0 f1
      go_wp2
      go_ret
      exact ⟨_, rfl, HF.out.1, HF.out.2⟩
  · go_region_held3 (fun w' => w'.cell? ⟨br, 0, none⟩ = some (.slice (some ⟨g, 0, none⟩) N cap) ∧ w'.cell? ⟨br, 1, none⟩ = some (.int .i64 ((a : Int) + (n : Int)))) (go_keep) (first
      | (go_at_call 174; refine (clone_any _ ((L.drop a).take n) (by rw [HLN.out]; omega) _ (HCUT.out _ HOW.out.drew a (cap - a) (.inr rfl) (by omega) (by unfold maxLen; omega))).mono ?_; rintro e w2 ⟨v2, rfl, hown2, hb2⟩; have f0 := hb2.cell (p := ⟨br, 0, none⟩) hbr2; have f1 := hb2.cell (p := ⟨br, 1, none⟩) hbr2))
    all_goals
      have HF := Lib.hid (rbytes_close HST.out hsz (by rw [HLN.out] at hown2; exact hown2) hb2 (by have := HB.out; omega))
      rw [← HLD.out.1] at HF
      clear hown2 hb2 f0 f1
      go_wp2
      go_ret
      exact ⟨_, rfl, HF.out.1, HF.out.2⟩

end Go.Proofs.Ytmadkfahkbdibaa

set_option linter.unusedVariables false
set_option linter.unusedSimpArgs false
namespace Go.Proofs.Ytmadkfahkbdibaa
open Go.RowKit

theorem RStep.ofDrewN {w w' : World} {base br n : Nat} {st : Option (List UInt8)} (h : RStep (w.drewN n) w' base br st) (hb : base ≤ w.heap.size) : RStep w w' base br st :=
  ⟨h.1, ((below_drewN w n).mono hb).trans h.2.1, (Kept.of_below (below_drewN w n)).trans h.2.2⟩
theorem RStep.trans {w w' w'' : World} {base br : Nat} {st st' : Option (List UInt8)} (h : RStep w w' base br st) (h' : RStep w' w'' base br st') : RStep w w'' base br st' :=
  ⟨h'.1, h.2.1.trans h'.2.1, h.2.2.trans h'.2.2⟩
/-- what Bytes tells -/
def rBy (st : Option (List UInt8)) (n : Int) : List UInt8 := (rTake st n).getD []
theorem rBy_none (n : Int) : rBy none n = [] := rfl
theorem rTake_bad {st : Option (List UInt8)} {n : Int} (h : ∀ l, st = some l → ¬ (0 ≤ n ∧ n ≤ l.length)) : rTake st n = none ∧ rRest st n = none := by
  cases st with
  | none => exact ⟨rfl, rfl⟩
  | some l => exact ⟨if_neg (h l rfl), if_neg (h l rfl)⟩
theorem rTake_fit {l : List UInt8} {n : Nat} (h : n ≤ l.length) : rTake (some l) (n : Int) = some (l.take n) ∧ rRest (some l) (n : Int) = some (l.drop n) := by
  constructor
  · show (if 0 ≤ (n : Int) ∧ (n : Int) ≤ l.length then some (l.take (n : Int).toNat) else none) = _
    rw [if_pos ⟨by omega, by omega⟩, Int.toNat_natCast]
  · show (if 0 ≤ (n : Int) ∧ (n : Int) ≤ l.length then some (l.drop (n : Int).toNat) else none) = _
    rw [if_pos ⟨by omega, by omega⟩, Int.toNat_natCast]

set_option maxRecDepth 4000 in
set_option maxHeartbeats 1000000 in
theorem rbytes_bad (base br : Nat) (st : Option (List UInt8)) (n : Int) (hn : -9223372036854775808 ≤ n ∧ n ≤ 9223372036854775807) (hbad : ∀ l, st = some l → ¬ (0 ≤ n ∧ n ≤ l.length)) (w : World) (h : IsR w base br st) :
    Calls Try.prog 162 #[.pointer (some ⟨br, 0, none⟩), .int .i64 n] w fun e w' => e = .returned (.slice none 0 0) ∧ RStep w w' base br none := by
  have HWE := Lib.hid (rwell_any base br _ w h)
  have HLF := Lib.hid (rleft_any base br _ w h)
  have hbs : base ≤ w.heap.size := by have := h.lt; omega
  have HFL := Lib.hid (rfail_any base br st w h)
  have HFN := Lib.hid (fun n => rfail_any base br st (w.drewN n) (h.drewN n))
  cases st with
  | none =>
    rw [show (none : Option (List UInt8)).isSome = false from rfl] at HWE
    go_enter Try.func162, Try.ntmps162
    go_wp2_with fail
    refine HWE.out.mono ?_
    rintro e w1 ⟨rfl, rfl⟩
    go_wp2_with fail
    refine HFL.out.mono ?_
    rintro e w1 ⟨rfl, hr⟩
    have HR := Lib.hid hr; clear hr
    go_wp2
    go_ret
    exact ⟨rfl, HR.out⟩
  | some l =>
    rw [show (some l : Option (List UInt8)).isSome = true from rfl] at HWE
    rw [show rLen (some l) = l.length from rfl] at HLF
    have hb := hbad l rfl
    clear hbad
    generalize l.length = m at *
    by_cases hn0 : n < 0
    · go_enter Try.func162, Try.ntmps162
      go_wp2_with fail
      refine HWE.out.mono ?_
      rintro e w1 ⟨rfl, rfl⟩
      go_wp2_with fail
      refine HFL.out.mono ?_
      rintro e w1 ⟨rfl, hr⟩
      have HR := Lib.hid hr; clear hr
      go_wp2
      go_ret
      exact ⟨rfl, HR.out⟩
    · have hm : (m : Int) < n := by omega
      go_enter Try.func162, Try.ntmps162
      go_wp2_with fail
      refine HWE.out.mono ?_
      rintro e w1 ⟨rfl, rfl⟩
      go_wp2_with fail
      refine HLF.out.mono ?_
      rintro e w1 ⟨rfl, nd, rfl⟩
      go_wp2_with fail
      refine (HFN.out nd).mono ?_
      rintro e w2 ⟨rfl, hr⟩
      have HR := Lib.hid (hr.ofDrewN hbs); clear hr
      go_wp2
      go_ret
      exact ⟨rfl, HR.out⟩

theorem rbytes_any (base br : Nat) (st : Option (List UInt8)) (n : Int) (hn : -9223372036854775808 ≤ n ∧ n ≤ 9223372036854775807) (w : World) (h : IsR w base br st) :
    Calls Try.prog 162 #[.pointer (some ⟨br, 0, none⟩), .int .i64 n] w fun e w' => ∃ v, e = .returned v ∧ w'.ownsRow w.heap.size 5 1 v (rBy st n).length (bytesV (rBy st n)) ∧ RStep w w' base br (rRest st n) := by
  by_cases hf : ∃ l, st = some l ∧ 0 ≤ n ∧ n ≤ l.length
  · obtain ⟨l, rfl, h0, h1⟩ := hf
    obtain ⟨k, rfl⟩ := Int.eq_ofNat_of_zero_le h0
    have hk : k ≤ l.length := by omega
    refine (rbytes_fit base br l k hk w h).mono ?_
    rintro e w' ⟨v, rfl, hown, hr, -⟩
    refine ⟨v, rfl, ?_, by rw [(rTake_fit hk).2]; exact hr⟩
    have : rBy (some l) (k : Int) = l.take k := by unfold rBy; rw [(rTake_fit hk).1]; rfl
    rw [this, List.length_take, Nat.min_eq_left hk]; exact hown
  · have hb : ∀ l, st = some l → ¬ (0 ≤ n ∧ n ≤ l.length) := fun l e hh => hf ⟨l, e, hh⟩
    refine (rbytes_bad base br st n hn hb w h).mono ?_
    rintro e w' ⟨rfl, hr⟩
    refine ⟨_, rfl, ?_, by rw [(rTake_bad hb).2]; exact hr⟩
    have : rBy st n = [] := by unfold rBy; rw [(rTake_bad hb).1]; rfl
    rw [this]; exact World.ownsRow_nil _ _ _ _

def beVal (l : List UInt8) : Nat := l.foldl (fun n b => n * 256 + b.toNat) 0
def rSize (size : Int) : Bool := size == 1 || size == 2 || size == 4 || size == 8
def rNumV (st : Option (List UInt8)) (size : Int) : Nat := if rSize size then beVal (rBy st size) else 0
def rNumS (st : Option (List UInt8)) (size : Int) : Option (List UInt8) := if rSize size then rRest st size else none
theorem beVal_snoc (l : List UInt8) (b : UInt8) : beVal (l ++ [b]) = beVal l * 256 + b.toNat := by unfold beVal; rw [List.foldl_append]; rfl
theorem beVal_lt (n : Nat) : ∀ l : List UInt8, l.length = n → beVal l < 256 ^ n := by
  induction n with
  | zero => intro l h; rw [List.eq_nil_of_length_eq_zero h]; decide
  | succ n ih =>
    intro l h
    have hne : l ≠ [] := fun e => by rw [e] at h; simp at h
    have h1 := ih l.dropLast (by rw [List.length_dropLast, h]; rfl)
    have h2 := (l.getLast hne).toNat_lt
    rw [← List.dropLast_concat_getLast hne, beVal_snoc, Nat.pow_succ]
    omega
theorem beVal_step {x : List UInt8} {i : Nat} {b : UInt8} (h : x[i]? = some b) (hi : i < 8) : beVal (x.take i) < 72057594037927936 ∧ beVal (x.take (i + 1)) = beVal (x.take i) * 256 + b.toNat := by
  have hl := (List.getElem?_eq_some_iff.1 h).1
  constructor
  · have h1 := beVal_lt i (x.take i) (by rw [List.length_take]; omega)
    have h2 : 256 ^ i ≤ 256 ^ 7 := Nat.pow_le_pow_right (by decide) (by omega)
    omega
  · rw [List.take_add_one, h]
    exact beVal_snoc _ _
theorem or_step (V b : Nat) (hV : V < 72057594037927936) (hb : b < 2 ^ 8) : bits .or .u64 ((V : Int) * 256) (b : Int) = ((V * 256 + b : Nat) : Int) := by
  have e : ((V : Int) * 256) = ((V * 256 : Nat) : Int) := by omega
  rw [e, u64_or_nat (V * 256) b (by omega) (by omega)]
  congr 1
  rw [show V * 256 = V <<< 8 from by rw [Nat.shiftLeft_eq], ← Nat.shiftLeft_add_eq_or_of_lt hb]
theorem rBy_le (st : Option (List UInt8)) (k : Nat) : (rBy st (k : Int)).length ≤ k := by
  unfold rBy rTake
  cases st with
  | none => exact Nat.zero_le _
  | some l => dsimp only; split <;> simp; omega

set_option maxRecDepth 4000 in
set_option maxHeartbeats 1000000 in
theorem rnumber_bad (base br : Nat) (st : Option (List UInt8)) (size : Int) (hs : rSize size = false) (w : World) (h : IsR w base br st) :
    Calls Try.prog 160 #[.pointer (some ⟨br, 0, none⟩), .int .i64 size] w fun e w' => e = .returned (.int .u64 0) ∧ RStep w w' base br none := by
  unfold rSize at hs
  simp only [Bool.or_eq_false_iff, beq_eq_false_iff_ne] at hs
  obtain ⟨⟨⟨s1, s2⟩, s4⟩, s8⟩ := hs
  have HFL := Lib.hid (rfail_any base br st w h)
  go_enter Try.func160, Try.ntmps160
  go_wp2_with fail
  refine HFL.out.mono ?_
  rintro e w1 ⟨rfl, hr⟩
  have HR := Lib.hid hr; clear hr
  go_wp2
  go_ret
  exact ⟨rfl, HR.out⟩

set_option maxRecDepth 4000 in
set_option maxHeartbeats 1000000 in
theorem rnumber_fit (base br : Nat) (st : Option (List UInt8)) (k : Nat) (hk : k = 1 ∨ k = 2 ∨ k = 4 ∨ k = 8) (w : World) (h : IsR w base br st) :
    Calls Try.prog 160 #[.pointer (some ⟨br, 0, none⟩), .int .i64 (k : Int)] w fun e w' => e = .returned (.int .u64 (beVal (rBy st (k : Int)) : Int)) ∧ RStep w w' base br (rRest st (k : Int)) := by
  have HBY := Lib.hid (rbytes_any base br st (k : Int) (by omega) w h)
  have hle := rBy_le st k
  generalize rBy st (k : Int) = x at *
  have HLX := Lib.hid (rfl : x.length = x.length)
  generalize hm : x.length = m at *
  have HM := Lib.hid hm; clear hm HLX
  rcases hk with rfl | rfl | rfl | rfl
  all_goals
    go_enter Try.func160, Try.ntmps160
    go_wp2_with fail
    refine HBY.out.mono ?_
    rintro e w1 ⟨v, rfl, hown, hr⟩
    obtain ⟨q, c, rfl⟩ := own_form hown
    have HO := Lib.hid hown
    have HR := Lib.hid hr
    clear hown hr
    go_wp2_with fail
    go_loopw [4, 17] (fun a n wr => wr = w1 ∧ ∃ i : Nat, i ≤ m ∧ n = .int .i64 (i : Int) ∧ a = .int .u64 (beVal (x.take i) : Int)) (fun _ n _ => m - (intOf n).toNat)
    case atStart => exact ⟨rfl, 0, Nat.zero_le _, rfl, rfl⟩
    case round =>
      obtain ⟨rfl, i, hi, rfl, rfl⟩ := hrel
      by_cases him : i < m
      · obtain ⟨b, hb⟩ : ∃ b, x[i]? = some b := ⟨_, List.getElem?_eq_getElem (by have := HM.out; omega)⟩
        obtain ⟨g, rfl⟩ : ∃ g, q = some ⟨g, 0, none⟩ := by
          rcases HO.out.2 with ⟨h, h0⟩ | ⟨g, c, cur, h, _⟩
          · omega
          · injection h with h; exact ⟨g, h⟩
        have hcell : wr.cell? ⟨g, i, none⟩ = some (.int .u8 (b.toNat : Int)) := by rw [HO.out.cellAt i (by omega), bytesV_at, hb]; rfl
        obtain ⟨t1, t2⟩ := beVal_step hb (by omega)
        have t3 := b.toNat_lt
        have HT := Lib.hid t2
        generalize beVal (x.take i) = V at *
        clear hb t2
        generalize b.toNat = bb at *
        go_wp2
        go_roundw
        case rel => exact ⟨trivial, i + 1, by omega, by go_num, by rw [or_step V bb t1 t3, HT.out]⟩
        case measure => simp [intOf]; omega
      · obtain rfl : i = m := by omega
        have HTK : Hid (x.take i = x) := Lib.hid (List.take_of_length_le (by have := HM.out; omega))
        rw [HTK.out]
        go_wp2
        go_ret
        exact ⟨rfl, HR.out⟩

end Go.Proofs.Ytmadkfahkbdibaa

set_option linter.unusedVariables false
set_option linter.unusedSimpArgs false
namespace Go.Proofs.Ytmadkfahkbdibaa
open Go.RowKit

theorem own_mono {w : World} {base base' : Nat} {e : TypeId} {n : Nat} {v : Value} {xs : List Value} (h : w.ownsRow base e 1 v n xs) (hb : base' ≤ base) : w.ownsRow base' e 1 v n xs := by
  obtain ⟨hl, hor⟩ := h
  refine ⟨hl, ?_⟩
  rcases hor with h | ⟨g', cap', cur, e, hg, h4⟩
  · exact .inl h
  · exact .inr ⟨g', cap', cur, e, Nat.le_trans hb hg, h4⟩
theorem rnumber_any (base br : Nat) (st : Option (List UInt8)) (size : Int) (w : World) (h : IsR w base br st) :
    Calls Try.prog 160 #[.pointer (some ⟨br, 0, none⟩), .int .i64 size] w fun e w' => e = .returned (.int .u64 (rNumV st size : Int)) ∧ RStep w w' base br (rNumS st size) := by
  by_cases hs : rSize size = true
  · have h2 : ∃ k : Nat, (k = 1 ∨ k = 2 ∨ k = 4 ∨ k = 8) ∧ size = (k : Int) := by
      unfold rSize at hs
      simp only [Bool.or_eq_true, beq_iff_eq] at hs
      exact ⟨size.toNat, by omega, by omega⟩
    obtain ⟨k, hk, rfl⟩ := h2
    refine (rnumber_fit base br st k hk w h).mono ?_
    rintro e w' ⟨rfl, hr⟩
    unfold rNumV rNumS
    rw [if_pos hs, if_pos hs]
    exact ⟨rfl, hr⟩
  · refine (rnumber_bad base br st size (by simpa using hs) w h).mono ?_
    rintro e w' ⟨rfl, hr⟩
    unfold rNumV rNumS
    rw [if_neg hs, if_neg hs]
    exact ⟨rfl, hr⟩
theorem rNumV_lt (st : Option (List UInt8)) (k : Nat) : rNumV st (k : Int) < 256 ^ k := by
  unfold rNumV
  split
  · have h1 := beVal_lt _ (rBy st (k : Int)) rfl
    exact Nat.lt_of_lt_of_le h1 (Nat.pow_le_pow_right (by decide) (rBy_le st k))
  · exact Nat.pow_pos (by decide)

/-- what Blob tells, and leaves -/
def rBlobV (st : Option (List UInt8)) : List UInt8 := if rNumV st 4 > 16777216 then [] else rBy (rNumS st 4) (rNumV st 4 : Nat)
def rBlobS (st : Option (List UInt8)) : Option (List UInt8) := if rNumV st 4 > 16777216 then none else rRest (rNumS st 4) (rNumV st 4 : Nat)

end Go.Proofs.Ytmadkfahkbdibaa
