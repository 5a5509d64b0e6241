/- Contracts of package wire's Reader: Read, well, Left, Fail, Bytes, End. Contracts of package wire's Reader: Bytes of whatever number, Number, Int, Flag, Blob, Text, Count. Contracts of package wire's Reader: Number of any size, Int, Flag, Blob, Text, Count. Plain facts: which texts are numbers, above a bound or not; no program in sight. Contracts: digits and decimals of package wire and of the reference. Plain facts on bytes' digits; no program in sight. Contracts: bytes' digits, of package wire and of the reference. Contracts of the wire reference: power, MaySize, Number, Blob. Contracts of the wire reference's Cut, TakeNumber and Take. Plain facts for PostingReads: a posting's 63 bytes, and what is read of any bytes. -/
import Derived.Test.YtolfekbhlfjniaaYWir
import Derived.Deep.RegionHeld3
import Derived.Laws.BitsAllLaws
import Derived.Test.YtolfekbhlfjniaaDec
import GoSem.Op.String
import Derived.Test.YtolfekbhlfjniaaNumC
import GoSem.Core.Value
import Derived.BigRegion
import Derived.Deep.QuietTactic
import Derived.BigQuiet
import Derived.Test.YtolfekbhlfjniaaPostL
set_option linter.unusedVariables false
set_option linter.unusedSimpArgs false
namespace Go.Proofs.Ytolfekbhlfjniaa
open Go.RowKit

def RT : List TypeId := [107]
/-- a reader at a block, of blocks of its own from base on: what is left (none: it failed) -/
def IsR (w : World) (base br : Nat) (st : Option (List UInt8)) : Prop :=
  base ≤ br ∧ ∃ (g cap at_ : Nat) (bad : Bool) (L : List UInt8), w.heap[br]? = some (.cells #[.slice (some ⟨g, 0, none⟩) L.length cap, .int .i64 (at_ : Int), .bool bad] 107 (0, 0)) ∧
    w.ownsRow base 5 1 (.slice (some ⟨g, 0, none⟩) L.length cap) L.length (bytesV L) ∧ at_ ≤ L.length ∧ L.length ≤ 1073741824 ∧ st = if bad then none else some (L.drop at_)
/-- what a reader's method leaves -/
def RStep (w w' : World) (base br : Nat) (st : Option (List UInt8)) : Prop := IsR w' base br st ∧ Below base w w' ∧ Kept RT w w'
theorem IsR.below {w w' : World} {base br : Nat} {st : Option (List UInt8)} (h : IsR w base br st) (hw : Below w.heap.size w w') : IsR w' base br st := by
  obtain ⟨hb, g, cap, a, bad, L, h1, h2, h3⟩ := h
  exact ⟨hb, g, cap, a, bad, L, (hw.block br (block_lt h1)).trans h1, own_below h2 hw, h3⟩
theorem IsR.lt {w : World} {base br : Nat} {st : Option (List UInt8)} (h : IsR w base br st) : base ≤ br ∧ br < w.heap.size := by
  obtain ⟨hb, g, cap, a, bad, L, h1, _⟩ := h
  exact ⟨hb, block_lt h1⟩
theorem nil_ne (w : World) (a : Option Addr) (n c n' c' : Nat) : (binOp .neq 40 (.slice a n c) (.slice none n' c')).run Try.prog w = .ok (.bool (!a.isNone)) w := by
  simp only [binOp]
  simp [Op.equal, Op.maxDepth, Lib.run_equalIn_slice_nil w 9999 40 5 a n c n' c' Try.underlying40]

set_option maxRecDepth 4000 in
set_option maxHeartbeats 400000 in
theorem read_any (v : Value) (b : List UInt8) (hl : b.length ≤ 1073741824) (w : World) (hv : BS w v b) :
    Calls Try.prog 36 #[v] w fun e w' => ∃ br, e = .returned (.pointer (some ⟨br, 0, none⟩)) ∧ IsR w' w.heap.size br (some b) ∧ Below w.heap.size w w' := by
  have HV := Lib.hid hv
  obtain ⟨p, cap, rfl, g1, g2, -⟩ := hv
  generalize hn : b.length = n at *
  have HN := Lib.hid hn; clear hn
  go_enter Try.func36, Try.ntmps36
  go_wp2_with (at_builtin; refine wpList_append_bytes rfl _ _ rfl w.heap.size _ 0 [] rfl (own_of_row (new_rowW _ _ _ rfl) (Nat.le_refl _)) _ b rfl (HV.out.alloc _) (by have := HN.out; omega) (by simp) ?_)
  intro v1 w1 hown1 hg1 hn1 hat1
  have HB : Hid (Below w.heap.size w w1) := Lib.hid (((Below.refl w.heap.size w).alloc (Nat.le_refl _) _).grown hg1 (by simp) (fun b hb => by injection hb with hb; simp at hb; omega))
  rw [HN.out] at hown1
  have hform : ∃ g c, v1 = .slice (some ⟨g, 0, none⟩) n c := by
    rcases hown1.2 with ⟨h, _⟩ | ⟨g, c, cur, h, _⟩
    · exact absurd h hn1
    · exact ⟨g, c, h⟩
  obtain ⟨g, c, rfl⟩ := hform
  have HO := Lib.hid hown1
  clear hown1 hg1 hn1 hat1
  go_wp2
  go_ret
  refine ⟨_, rfl, ⟨HB.out.size, g, c, 0, false, b, ?_, ?_, Nat.zero_le _, by rw [HN.out]; exact hl, rfl⟩, HB.out.alloc HB.out.size _⟩
  · rw [HN.out]; exact new_rowW _ _ _ rfl
  · rw [HN.out]; exact HO.out.alloc _

set_option maxHeartbeats 400000 in
theorem rwell_any (base br : Nat) (st : Option (List UInt8)) (w : World) (h : IsR w base br st) :
    Calls Try.prog 70 #[.pointer (some ⟨br, 0, none⟩)] w fun e w' => e = .returned (.bool st.isSome) ∧ w = w' := by
  obtain ⟨-, g, cap, a, bad, L, h1, -, -, -, rfl⟩ := h
  have hc0 : w.cell? ⟨br, 0, none⟩ = some (.slice (some ⟨g, 0, none⟩) L.length cap) := cell_of_row w br 0 _ _ _ h1
  have hc2 : w.cell? ⟨br, 2, none⟩ = some (.bool bad) := cell_of_row w br 2 _ _ _ h1
  have hn := fun W => nil_ne W (some ⟨g, 0, none⟩) L.length cap 0 0
  clear h1
  generalize L.length = n at *
  have HS : Hid ((if bad = true then none else some (L.drop a)).isSome = !bad) := Lib.hid (by cases bad <;> rfl)
  rw [HS.out]
  clear HS
  go_enter Try.func70, Try.ntmps70
  go_wp2
  go_ret
  exact ⟨rfl, rfl⟩

theorem ret_intR {k : IntKind} {a b : Int} (h : a = b) : Ending.returned (.int k a) = .returned (.int k b) := by rw [h]
def rLen (st : Option (List UInt8)) : Nat := (st.getD []).length
set_option maxHeartbeats 400000 in
theorem rleft_any (base br : Nat) (st : Option (List UInt8)) (w : World) (h : IsR w base br st) :
    Calls Try.prog 38 #[.pointer (some ⟨br, 0, none⟩)] w fun e w' => e = .returned (.int .i64 (rLen st)) ∧ ∃ n, w' = w.drewN n := by
  have HW := Lib.hid (rwell_any base br st w h)
  obtain ⟨-, g, cap, a, bad, L, h1, -, ha, hL, rfl⟩ := h
  have hc0 : w.cell? ⟨br, 0, none⟩ = some (.slice (some ⟨g, 0, none⟩) L.length cap) := cell_of_row w br 0 _ _ _ h1
  have hc1 : w.cell? ⟨br, 1, none⟩ = some (.int .i64 (a : Int)) := cell_of_row w br 1 _ _ _ h1
  clear h1
  cases bad
  · have HS2 : Hid ((rLen (if false = true then none else some (L.drop a)) : Int) = (L.length : Int) - (a : Int)) := Lib.hid (by
      show ((rLen (some (L.drop a)) : Nat) : Int) = _
      unfold rLen
      simp; omega)
    generalize L.length = n at *
    go_enter Try.func38, Try.ntmps38
    go_wp2_with fail
    refine HW.out.mono ?_
    rintro e w1 ⟨rfl, rfl⟩
    go_wp2_with fail
    go_quiet (fail)
    go_wp2
    go_ret
    exact ⟨ret_intR HS2.out.symm, _, rfl⟩
  · go_enter Try.func38, Try.ntmps38
    go_wp2_with fail
    refine HW.out.mono ?_
    rintro e w1 ⟨rfl, rfl⟩
    go_wp2
    go_ret
    exact ⟨rfl, 0, rfl⟩

set_option maxHeartbeats 400000 in
theorem rfail_any (base br : Nat) (st : Option (List UInt8)) (w : World) (h : IsR w base br st) :
    Calls Try.prog 69 #[.pointer (some ⟨br, 0, none⟩)] w fun e w' => e = .returned (.tuple #[]) ∧ RStep w w' base br none := by
  obtain ⟨hb, g, cap, a, bad, L, h1, hown, ha, hL, -⟩ := h
  have HR := Lib.hid h1
  have HO := Lib.hid hown
  have hc0 := fun j => cell_of_row w br j _ _ _ h1
  have hf := fun j => frozen_of_row w br j _ _ h1
  clear h1 hown
  go_enter Try.func69, Try.ntmps69
  go_wp2
  go_end0
  refine ⟨rfl, ⟨hb, g, cap, a, true, L, ?_, own_set HO.out HR.out (by decide) _ _, ha, hL, rfl⟩, (Below.refl _ _).setCell hb _, (Kept.refl _ _).setCell HR.out (by simp [RT]) _⟩
  rw [heap_setCell_same _ _ _ _ _ _ HR.out]
  rfl

set_option maxHeartbeats 400000 in
theorem rend_any (base br : Nat) (st : Option (List UInt8)) (w : World) (h : IsR w base br st) :
    Calls Try.prog 41 #[.pointer (some ⟨br, 0, none⟩)] w fun e w' => e = .returned (.int .i64 (if st = some [] then 0 else 4)) ∧ ∃ n, w' = w.drewN n := by
  have HLF := Lib.hid (rleft_any base br st w h)
  obtain ⟨-, g, cap, a, bad, L, h1, -, ha, hL, rfl⟩ := h
  have hc0 : w.cell? ⟨br, 0, none⟩ = some (.slice (some ⟨g, 0, none⟩) L.length cap) := cell_of_row w br 0 _ _ _ h1
  have hc2 : w.cell? ⟨br, 2, none⟩ = some (.bool bad) := cell_of_row w br 2 _ _ _ h1
  have hn := fun W => nil_eq W (some ⟨g, 0, none⟩) L.length cap 0 0
  clear h1
  cases bad
  · have HLL : Hid (L.drop a = [] ↔ rLen (some (L.drop a)) = 0) := Lib.hid (by unfold rLen; simp; omega)
    rw [show (if false = true then none else some (L.drop a)) = some (L.drop a) from rfl] at *
    have HQ : Hid ((if some (L.drop a) = some [] then (0 : Int) else 4) = if rLen (some (L.drop a)) = 0 then 0 else 4) := Lib.hid (by
      by_cases h : L.drop a = []
      · rw [if_pos (by rw [h]), if_pos (HLL.out.1 h)]
      · rw [if_neg (by simpa using h), if_neg (fun h' => h (HLL.out.2 h'))])
    rw [HQ.out]
    generalize rLen (some (L.drop a)) = m at *
    generalize L.length = n at *
    clear HQ HLL
    rcases Nat.eq_zero_or_pos m with rfl | hm
    · go_enter Try.func41, Try.ntmps41
      go_wp2_with fail
      refine HLF.out.mono ?_
      rintro e w1 ⟨rfl, k, rfl⟩
      go_wp2
      go_ret
      exact ⟨rfl, k, rfl⟩
    · rw [if_neg (by omega)]
      go_enter Try.func41, Try.ntmps41
      go_wp2_with fail
      refine HLF.out.mono ?_
      rintro e w1 ⟨rfl, k, rfl⟩
      go_wp2
      go_ret
      exact ⟨rfl, k, rfl⟩
  · generalize L.length = n at *
    go_enter Try.func41, Try.ntmps41
    go_wp2
    go_ret
    exact ⟨rfl, 0, rfl⟩

/-- what is taken off: so many bytes -/
def rTake (st : Option (List UInt8)) (n : Int) : Option (List UInt8) := match st with | none => none | some l => if 0 ≤ n ∧ n ≤ l.length then some (l.take n.toNat) else none
def rRest (st : Option (List UInt8)) (n : Int) : Option (List UInt8) := match st with | none => none | some l => if 0 ≤ n ∧ n ≤ l.length then some (l.drop n.toNat) else none

theorem IsR.drewN {w : World} {base br : Nat} {st : Option (List UInt8)} (h : IsR w base br st) (n : Nat) : IsR (w.drewN n) base br st := h.below ⟨rfl, rfl, rfl, Nat.le_refl _, fun _ _ => rfl⟩
theorem below_drewN (w : World) (n : Nat) : Below w.heap.size w (w.drewN n) := ⟨rfl, rfl, rfl, Nat.le_refl _, fun _ _ => rfl⟩

theorem own_cut {w : World} {base g N cap a n : Nat} {L : List UInt8} (h : w.ownsRow base 5 1 (.slice (some ⟨g, 0, none⟩) N cap) N (bytesV L)) (hn : a + n ≤ N) (o c : Nat) (ho : n = 0 ∨ o = a) (hc : n ≤ c) (hcm : c ≤ maxLen) :
    BS w (.slice (some ⟨g, o, none⟩) n c) ((L.drop a).take n) := by
  have hlen : L.length = N := by have := h.1; rw [bytesV_length] at this; omega
  have hll : ((L.drop a).take n).length = n := by rw [List.length_take, List.length_drop]; omega
  refine ⟨_, c, by rw [hll], by omega, hcm, fun hne => ⟨g, o, rfl, ?_, fun i x hx => ?_⟩⟩
  · exact (h.lt g rfl).2
  · have hi : i < n := by have := (List.getElem?_eq_some_iff.1 hx).1; omega
    rcases ho with ho | ho
    · omega
    · subst ho
      rw [List.getElem?_take_of_lt hi, List.getElem?_drop] at hx
      have := h.cells (g := g) rfl (o + i) (.int .u8 (x.toNat : Int)) (by rw [bytesV_at, hx]; rfl)
      rwa [Go.WideShapes.add_plain, Nat.zero_add] at this

theorem rbytes_close {w W w2 : World} {base br n : Nat} {st : Option (List UInt8)} {v : Value} {l : List UInt8} (h : RStep w W base br st) (hsz : W.heap.size = w.heap.size) (hown : w2.ownsRow W.drew.heap.size 5 1 v n (bytesV l)) (hb : Below W.drew.heap.size W.drew w2) (hbase : base ≤ w.heap.size) :
    w2.ownsRow w.heap.size 5 1 v n (bytesV l) ∧ RStep w w2 base br st ∧ ∀ w3, Below w.heap.size w2 w3 → IsR w3 base br st := by
  have h1 : Below W.heap.size W w2 := (Below.refl _ _).drew.trans hb
  exact ⟨by rw [← hsz]; exact hown, ⟨h.1.below h1, h.2.1.trans (h1.mono (by omega)), h.2.2.trans (.of_below h1)⟩, fun w3 h3 => h.1.below (h1.trans (h3.mono (by omega)))⟩
theorem run_cut (g N cap a n : Nat) (h : a + n ≤ cap) : ∃ o, (n = 0 ∨ o = a) ∧ ∀ W : World, (Instr.slice 40 (.slice (some ⟨g, 0, none⟩) N cap) (some (.int .i64 (a : Int))) (some (.int .i64 ((a : Int) + (n : Int)))) none).run Try.prog W = .ok (.slice (some ⟨g, o, none⟩) n (cap - a)) W := by
  have ht : Try.prog.underlying 40 = some (.slice (Try.prog.elem 40)) := by kernel_rfl
  have hz : ∀ W : World, (sizeOf (Try.prog.elem 40)).run Try.prog W = .ok 1 W := fun W => by
    rw [show Try.prog.elem 40 = 5 from by kernel_rfl]; simp [go_sem]
  by_cases hc : a = cap
  · refine ⟨0, .inl (by omega), fun W => ?_⟩
    rw [run_slice_lh W _ _ _ _ ht _ _ _ _ (by omega) (by omega) (by omega), hz]
    obtain rfl : n = 0 := by omega
    subst hc
    simp [sliced, Result.andThen]
  · refine ⟨a, .inr rfl, fun W => ?_⟩
    rw [run_slice_lh W _ _ _ _ ht _ _ _ _ (by omega) (by omega) (by omega), hz]
    have h1 : ¬ cap - a = 0 := by omega
    have h2 : ((a : Int) + (n : Int)).toNat - a = n := by omega
    simp [sliced, Result.andThen, h1, h2, Go.WideShapes.add_plain]
    intro e; omega

set_option maxRecDepth 4000 in
set_option maxHeartbeats 1000000 in
theorem rbytes_fit (base br : Nat) (l : List UInt8) (n : Nat) (hn : n ≤ l.length) (w : World) (h : IsR w base br (some l)) :
    Calls Try.prog 40 #[.pointer (some ⟨br, 0, none⟩), .int .i64 (n : Int)] w fun e w' => ∃ v, e = .returned v ∧ w'.ownsRow w.heap.size 5 1 v n (bytesV (l.take n)) ∧ RStep w w' base br (some (l.drop n)) ∧ ∀ w3, Below w.heap.size w' w3 → IsR w3 base br (some (l.drop n)) := by
  have HWE := Lib.hid (rwell_any base br _ w h)
  have HLF := Lib.hid (rleft_any base br _ w h)
  obtain ⟨hb, g, cap, a, bad, L, h1, hown, ha, hL, hst⟩ := h
  have hbad : bad = false := by cases bad with | false => rfl | true => cases hst
  subst hbad
  have hl : l = L.drop a := by injection hst
  have hll : L.length = a + l.length := by rw [hl, List.length_drop]; omega
  have HR := Lib.hid h1
  have HO := Lib.hid hown
  have HB := Lib.hid hb
  have HLD : Hid (l.take n = (L.drop a).take n ∧ l.drop n = L.drop (a + n)) := Lib.hid ⟨by rw [hl], by rw [hl, List.drop_drop]⟩
  have hc0 := fun j => cell_of_row w br j _ _ _ h1
  have hf := fun j => frozen_of_row w br j _ _ h1
  have hrl : rLen (some l) = l.length := rfl
  rw [hrl] at HLF
  clear h1 hown hst hl hrl
  generalize hm : l.length = m at *
  clear hm
  obtain ⟨N, hN⟩ : ∃ N, L.length = N := ⟨_, rfl⟩
  rw [hN] at hll hL
  have HN := Lib.hid hN
  rw [hN] at hc0
  clear hN
  have hown2 := HO.out
  rw [HN.out] at hown2
  have hcapb : N ≤ cap := by
    rcases hown2.2 with ⟨h, _⟩ | ⟨g', cap', cur, h, _, _, hnc, _⟩
    · cases h
    · injection h with _ _ h; omega
  have hcapm : cap ≤ 9223372036854775807 := by
    rcases hown2.2 with ⟨h, _⟩ | ⟨g', cap', cur, h, _, _, _, hcm, _⟩
    · cases h
    · injection h with _ _ h; unfold maxLen at hcm; omega
  clear hown2
  go_enter Try.func40, Try.ntmps40
  go_wp2_with fail
  refine HWE.out.mono ?_
  rintro e w1 ⟨rfl, rfl⟩
  go_wp2_with fail
  refine HLF.out.mono ?_
  rintro e w1 ⟨rfl, nd, rfl⟩
  go_wp2_with fail
  have hrow1 : ((w.drewN nd).setCell ⟨br, 1, none⟩ (.int .i64 ((a : Int) + (n : Int)))).heap[br]? = some (.cells #[.slice (some ⟨g, 0, none⟩) L.length cap, .int .i64 (((a + n : Nat)) : Int), .bool false] 107 (0, 0)) := by
    rw [heap_setCell_same (w.drewN nd) br 1 _ _ _ HR.out]
    simp
  have HOW : Hid (((w.drewN nd).setCell ⟨br, 1, none⟩ (.int .i64 ((a : Int) + (n : Int)))).ownsRow base 5 1 (.slice (some ⟨g, 0, none⟩) L.length cap) L.length (bytesV L)) := Lib.hid (own_set (w := w.drewN nd) HO.out HR.out (by decide) _ _)
  have HST : Hid (RStep w ((w.drewN nd).setCell ⟨br, 1, none⟩ (.int .i64 ((a : Int) + (n : Int)))) base br (some (l.drop n))) := Lib.hid
    ⟨⟨HB.out, g, cap, a + n, false, L, hrow1, HOW.out, by have := HN.out; omega, by have := HN.out; omega, by rw [HLD.out.2]; rfl⟩, ((below_drewN w nd).mono (by have := block_lt HR.out; have := HB.out; omega)).setCell HB.out _,
      (Kept.of_below (below_drewN w nd)).setCell (w := w.drewN nd) HR.out (by simp [RT]) _⟩
  have hsz : ((w.drewN nd).setCell ⟨br, 1, none⟩ (.int .i64 ((a : Int) + (n : Int)))).heap.size = w.heap.size := by simp
  rw [HN.out] at HOW hrow1
  have hbr := block_lt HR.out
  generalize (w.drewN nd).setCell ⟨br, 1, none⟩ (.int .i64 ((a : Int) + (n : Int))) = W at *
  have d0 : W.cell? ⟨br, 0, none⟩ = some (.slice (some ⟨g, 0, none⟩) N cap) := cell_of_row W br 0 _ _ _ hrow1
  have d1 : W.cell? ⟨br, 1, none⟩ = some (.int .i64 ((a : Int) + (n : Int))) := cell_of_row W br 1 _ _ _ hrow1
  have hbr2 : br < W.heap.size := by omega
  have hw1 : IntKind.i64.wrap ((a : Int) + (n : Int) - (n : Int)) = (a : Int) := by rw [IntKind.wrap_i64]; omega
  have hw2 : IntKind.i64.wrap (a : Int) = (a : Int) := by rw [IntKind.wrap_i64]; omega
  have HLN : Hid (((L.drop a).take n).length = n) := Lib.hid (by rw [List.length_take, List.length_drop, HN.out]; omega)
  clear hrow1 hf hc0
  have HCUT := Lib.hid (fun (W' : World) (h : W'.ownsRow base 5 1 (.slice (some ⟨g, 0, none⟩) N cap) N (bytesV L)) o c ho hc hcm => own_cut (a := a) (n := n) h (by omega) o c ho hc hcm)
  have j1 : (0 : Int) ≤ (a : Int) := by omega
  have j2 : (a : Int) ≤ (a : Int) + (n : Int) := by omega
  have j3 : (a : Int) + (n : Int) ≤ (cap : Int) := by omega
  have j4 : ((a : Int) + (n : Int)).toNat - a = n := by omega
  by_cases hca : cap = a
  · have hn0 : n = 0 := by omega
    have HZ : Hid (∀ W', BS W' (.slice (some ⟨g, 0, none⟩) 0 0) ((L.drop a).take n)) := Lib.hid (fun W' => by
      rw [hn0, List.take_zero]
      exact ⟨_, 0, rfl, Nat.le_refl _, Nat.zero_le _, fun h => absurd rfl h⟩)
    go_region_held3 (fun w' => w'.cell? ⟨br, 0, none⟩ = some (.slice (some ⟨g, 0, none⟩) N cap) ∧ w'.cell? ⟨br, 1, none⟩ = some (.int .i64 ((a : Int) + (n : Int)))) (go_keep) (first
      | (go_at_call 72; refine (clone_any _ ((L.drop a).take n) (by rw [HLN.out]; omega) _ (HZ.out _)).mono ?_; rintro e w2 ⟨v2, rfl, hown2, hb2⟩; have f0 := hb2.cell (p := ⟨br, 0, none⟩) hbr2; have f1 := hb2.cell (p := ⟨br, 1, none⟩) hbr2))
    all_goals
      have HF := Lib.hid (rbytes_close HST.out hsz (by rw [HLN.out] at hown2; exact hown2) hb2 (by have := HB.out; omega))
      rw [← HLD.out.1] at HF
      clear hown2 hb2 f0 f1
      go_wp2
      go_ret
      exact ⟨_, rfl, HF.out.1, HF.out.2⟩
  · go_region_held3 (fun w' => w'.cell? ⟨br, 0, none⟩ = some (.slice (some ⟨g, 0, none⟩) N cap) ∧ w'.cell? ⟨br, 1, none⟩ = some (.int .i64 ((a : Int) + (n : Int)))) (go_keep) (first
      | (go_at_call 72; refine (clone_any _ ((L.drop a).take n) (by rw [HLN.out]; omega) _ (HCUT.out _ HOW.out.drew a (cap - a) (.inr rfl) (by omega) (by unfold maxLen; omega))).mono ?_; rintro e w2 ⟨v2, rfl, hown2, hb2⟩; have f0 := hb2.cell (p := ⟨br, 0, none⟩) hbr2; have f1 := hb2.cell (p := ⟨br, 1, none⟩) hbr2))
    all_goals
      have HF := Lib.hid (rbytes_close HST.out hsz (by rw [HLN.out] at hown2; exact hown2) hb2 (by have := HB.out; omega))
      rw [← HLD.out.1] at HF
      clear hown2 hb2 f0 f1
      go_wp2
      go_ret
      exact ⟨_, rfl, HF.out.1, HF.out.2⟩
end Go.Proofs.Ytolfekbhlfjniaa

set_option linter.unusedVariables false
set_option linter.unusedSimpArgs false
namespace Go.Proofs.Ytolfekbhlfjniaa
open Go.RowKit

theorem RStep.ofDrewN {w w' : World} {base br n : Nat} {st : Option (List UInt8)} (h : RStep (w.drewN n) w' base br st) (hb : base ≤ w.heap.size) : RStep w w' base br st :=
  ⟨h.1, ((below_drewN w n).mono hb).trans h.2.1, (Kept.of_below (below_drewN w n)).trans h.2.2⟩
theorem RStep.trans {w w' w'' : World} {base br : Nat} {st st' : Option (List UInt8)} (h : RStep w w' base br st) (h' : RStep w' w'' base br st') : RStep w w'' base br st' :=
  ⟨h'.1, h.2.1.trans h'.2.1, h.2.2.trans h'.2.2⟩
/-- what Bytes tells -/
def rBy (st : Option (List UInt8)) (n : Int) : List UInt8 := (rTake st n).getD []
theorem rBy_none (n : Int) : rBy none n = [] := rfl
theorem rTake_bad {st : Option (List UInt8)} {n : Int} (h : ∀ l, st = some l → ¬ (0 ≤ n ∧ n ≤ l.length)) : rTake st n = none ∧ rRest st n = none := by
  cases st with
  | none => exact ⟨rfl, rfl⟩
  | some l => exact ⟨if_neg (h l rfl), if_neg (h l rfl)⟩
theorem rTake_fit {l : List UInt8} {n : Nat} (h : n ≤ l.length) : rTake (some l) (n : Int) = some (l.take n) ∧ rRest (some l) (n : Int) = some (l.drop n) := by
  constructor
  · show (if 0 ≤ (n : Int) ∧ (n : Int) ≤ l.length then some (l.take (n : Int).toNat) else none) = _
    rw [if_pos ⟨by omega, by omega⟩, Int.toNat_natCast]
  · show (if 0 ≤ (n : Int) ∧ (n : Int) ≤ l.length then some (l.drop (n : Int).toNat) else none) = _
    rw [if_pos ⟨by omega, by omega⟩, Int.toNat_natCast]

set_option maxRecDepth 4000 in
set_option maxHeartbeats 1000000 in
theorem rbytes_bad (base br : Nat) (st : Option (List UInt8)) (n : Int) (hn : -9223372036854775808 ≤ n ∧ n ≤ 9223372036854775807) (hbad : ∀ l, st = some l → ¬ (0 ≤ n ∧ n ≤ l.length)) (w : World) (h : IsR w base br st) :
    Calls Try.prog 40 #[.pointer (some ⟨br, 0, none⟩), .int .i64 n] w fun e w' => e = .returned (.slice none 0 0) ∧ RStep w w' base br none := by
  have HWE := Lib.hid (rwell_any base br _ w h)
  have HLF := Lib.hid (rleft_any base br _ w h)
  have hbs : base ≤ w.heap.size := by have := h.lt; omega
  have HFL := Lib.hid (rfail_any base br st w h)
  have HFN := Lib.hid (fun n => rfail_any base br st (w.drewN n) (h.drewN n))
  cases st with
  | none =>
    rw [show (none : Option (List UInt8)).isSome = false from rfl] at HWE
    go_enter Try.func40, Try.ntmps40
    go_wp2_with fail
    refine HWE.out.mono ?_
    rintro e w1 ⟨rfl, rfl⟩
    go_wp2_with fail
    refine HFL.out.mono ?_
    rintro e w1 ⟨rfl, hr⟩
    have HR := Lib.hid hr; clear hr
    go_wp2
    go_ret
    exact ⟨rfl, HR.out⟩
  | some l =>
    rw [show (some l : Option (List UInt8)).isSome = true from rfl] at HWE
    rw [show rLen (some l) = l.length from rfl] at HLF
    have hb := hbad l rfl
    clear hbad
    generalize l.length = m at *
    by_cases hn0 : n < 0
    · go_enter Try.func40, Try.ntmps40
      go_wp2_with fail
      refine HWE.out.mono ?_
      rintro e w1 ⟨rfl, rfl⟩
      go_wp2_with fail
      refine HFL.out.mono ?_
      rintro e w1 ⟨rfl, hr⟩
      have HR := Lib.hid hr; clear hr
      go_wp2
      go_ret
      exact ⟨rfl, HR.out⟩
    · have hm : (m : Int) < n := by omega
      go_enter Try.func40, Try.ntmps40
      go_wp2_with fail
      refine HWE.out.mono ?_
      rintro e w1 ⟨rfl, rfl⟩
      go_wp2_with fail
      refine HLF.out.mono ?_
      rintro e w1 ⟨rfl, nd, rfl⟩
      go_wp2_with fail
      refine (HFN.out nd).mono ?_
      rintro e w2 ⟨rfl, hr⟩
      have HR := Lib.hid (hr.ofDrewN hbs); clear hr
      go_wp2
      go_ret
      exact ⟨rfl, HR.out⟩

theorem rbytes_any (base br : Nat) (st : Option (List UInt8)) (n : Int) (hn : -9223372036854775808 ≤ n ∧ n ≤ 9223372036854775807) (w : World) (h : IsR w base br st) :
    Calls Try.prog 40 #[.pointer (some ⟨br, 0, none⟩), .int .i64 n] w fun e w' => ∃ v, e = .returned v ∧ w'.ownsRow w.heap.size 5 1 v (rBy st n).length (bytesV (rBy st n)) ∧ RStep w w' base br (rRest st n) := by
  by_cases hf : ∃ l, st = some l ∧ 0 ≤ n ∧ n ≤ l.length
  · obtain ⟨l, rfl, h0, h1⟩ := hf
    obtain ⟨k, rfl⟩ := Int.eq_ofNat_of_zero_le h0
    have hk : k ≤ l.length := by omega
    refine (rbytes_fit base br l k hk w h).mono ?_
    rintro e w' ⟨v, rfl, hown, hr, -⟩
    refine ⟨v, rfl, ?_, by rw [(rTake_fit hk).2]; exact hr⟩
    have : rBy (some l) (k : Int) = l.take k := by unfold rBy; rw [(rTake_fit hk).1]; rfl
    rw [this, List.length_take, Nat.min_eq_left hk]; exact hown
  · have hb : ∀ l, st = some l → ¬ (0 ≤ n ∧ n ≤ l.length) := fun l e hh => hf ⟨l, e, hh⟩
    refine (rbytes_bad base br st n hn hb w h).mono ?_
    rintro e w' ⟨rfl, hr⟩
    refine ⟨_, rfl, ?_, by rw [(rTake_bad hb).2]; exact hr⟩
    have : rBy st n = [] := by unfold rBy; rw [(rTake_bad hb).1]; rfl
    rw [this]; exact World.ownsRow_nil _ _ _ _

def beVal (l : List UInt8) : Nat := l.foldl (fun n b => n * 256 + b.toNat) 0
def rSize (size : Int) : Bool := size == 1 || size == 2 || size == 4 || size == 8
def rNumV (st : Option (List UInt8)) (size : Int) : Nat := if rSize size then beVal (rBy st size) else 0
def rNumS (st : Option (List UInt8)) (size : Int) : Option (List UInt8) := if rSize size then rRest st size else none
theorem beVal_snoc (l : List UInt8) (b : UInt8) : beVal (l ++ [b]) = beVal l * 256 + b.toNat := by unfold beVal; rw [List.foldl_append]; rfl
theorem beVal_lt (n : Nat) : ∀ l : List UInt8, l.length = n → beVal l < 256 ^ n := by
  induction n with
  | zero => intro l h; rw [List.eq_nil_of_length_eq_zero h]; decide
  | succ n ih =>
    intro l h
    have hne : l ≠ [] := fun e => by rw [e] at h; simp at h
    have h1 := ih l.dropLast (by rw [List.length_dropLast, h]; rfl)
    have h2 := (l.getLast hne).toNat_lt
    rw [← List.dropLast_concat_getLast hne, beVal_snoc, Nat.pow_succ]
    omega
theorem beVal_step {x : List UInt8} {i : Nat} {b : UInt8} (h : x[i]? = some b) (hi : i < 8) : beVal (x.take i) < 72057594037927936 ∧ beVal (x.take (i + 1)) = beVal (x.take i) * 256 + b.toNat := by
  have hl := (List.getElem?_eq_some_iff.1 h).1
  constructor
  · have h1 := beVal_lt i (x.take i) (by rw [List.length_take]; omega)
    have h2 : 256 ^ i ≤ 256 ^ 7 := Nat.pow_le_pow_right (by decide) (by omega)
    omega
  · rw [List.take_add_one, h]
    exact beVal_snoc _ _
theorem or_step (V b : Nat) (hV : V < 72057594037927936) (hb : b < 2 ^ 8) : bits .or .u64 ((V : Int) * 256) (b : Int) = ((V * 256 + b : Nat) : Int) := by
  have e : ((V : Int) * 256) = ((V * 256 : Nat) : Int) := by omega
  rw [e, u64_or_nat (V * 256) b (by omega) (by omega)]
  congr 1
  rw [show V * 256 = V <<< 8 from by rw [Nat.shiftLeft_eq], ← Nat.shiftLeft_add_eq_or_of_lt hb]
theorem rBy_le (st : Option (List UInt8)) (k : Nat) : (rBy st (k : Int)).length ≤ k := by
  unfold rBy rTake
  cases st with
  | none => exact Nat.zero_le _
  | some l => dsimp only; split <;> simp; omega

set_option maxRecDepth 4000 in
set_option maxHeartbeats 1000000 in
theorem rnumber_bad (base br : Nat) (st : Option (List UInt8)) (size : Int) (hs : rSize size = false) (w : World) (h : IsR w base br st) :
    Calls Try.prog 37 #[.pointer (some ⟨br, 0, none⟩), .int .i64 size] w fun e w' => e = .returned (.int .u64 0) ∧ RStep w w' base br none := by
  unfold rSize at hs
  simp only [Bool.or_eq_false_iff, beq_eq_false_iff_ne] at hs
  obtain ⟨⟨⟨s1, s2⟩, s4⟩, s8⟩ := hs
  have HFL := Lib.hid (rfail_any base br st w h)
  go_enter Try.func37, Try.ntmps37
  go_wp2_with fail
  refine HFL.out.mono ?_
  rintro e w1 ⟨rfl, hr⟩
  have HR := Lib.hid hr; clear hr
  go_wp2
  go_ret
  exact ⟨rfl, HR.out⟩

set_option maxRecDepth 4000 in
set_option maxHeartbeats 1000000 in
theorem rnumber_fit (base br : Nat) (st : Option (List UInt8)) (k : Nat) (hk : k = 1 ∨ k = 2 ∨ k = 4 ∨ k = 8) (w : World) (h : IsR w base br st) :
    Calls Try.prog 37 #[.pointer (some ⟨br, 0, none⟩), .int .i64 (k : Int)] w fun e w' => e = .returned (.int .u64 (beVal (rBy st (k : Int)) : Int)) ∧ RStep w w' base br (rRest st (k : Int)) := by
  have HBY := Lib.hid (rbytes_any base br st (k : Int) (by omega) w h)
  have hle := rBy_le st k
  generalize rBy st (k : Int) = x at *
  have HLX := Lib.hid (rfl : x.length = x.length)
  generalize hm : x.length = m at *
  have HM := Lib.hid hm; clear hm HLX
  rcases hk with rfl | rfl | rfl | rfl
  all_goals
    go_enter Try.func37, Try.ntmps37
    go_wp2_with fail
    refine HBY.out.mono ?_
    rintro e w1 ⟨v, rfl, hown, hr⟩
    obtain ⟨q, c, rfl⟩ := own_form hown
    have HO := Lib.hid hown
    have HR := Lib.hid hr
    clear hown hr
    go_wp2_with fail
    go_loopw [4, 17] (fun a n wr => wr = w1 ∧ ∃ i : Nat, i ≤ m ∧ n = .int .i64 (i : Int) ∧ a = .int .u64 (beVal (x.take i) : Int)) (fun _ n _ => m - (intOf n).toNat)
    case atStart => exact ⟨rfl, 0, Nat.zero_le _, rfl, rfl⟩
    case round =>
      obtain ⟨rfl, i, hi, rfl, rfl⟩ := hrel
      by_cases him : i < m
      · obtain ⟨b, hb⟩ : ∃ b, x[i]? = some b := ⟨_, List.getElem?_eq_getElem (by have := HM.out; omega)⟩
        obtain ⟨g, rfl⟩ : ∃ g, q = some ⟨g, 0, none⟩ := by
          rcases HO.out.2 with ⟨h, h0⟩ | ⟨g, c, cur, h, _⟩
          · omega
          · injection h with h; exact ⟨g, h⟩
        have hcell : wr.cell? ⟨g, i, none⟩ = some (.int .u8 (b.toNat : Int)) := by rw [HO.out.cellAt i (by omega), bytesV_at, hb]; rfl
        obtain ⟨t1, t2⟩ := beVal_step hb (by omega)
        have t3 := b.toNat_lt
        have HT := Lib.hid t2
        generalize beVal (x.take i) = V at *
        clear hb t2
        generalize b.toNat = bb at *
        go_wp2
        go_roundw
        case rel => exact ⟨trivial, i + 1, by omega, by go_num, by rw [or_step V bb t1 t3, HT.out]⟩
        case measure => simp [intOf]; omega
      · obtain rfl : i = m := by omega
        have HTK : Hid (x.take i = x) := Lib.hid (List.take_of_length_le (by have := HM.out; omega))
        rw [HTK.out]
        go_wp2
        go_ret
        exact ⟨rfl, HR.out⟩
end Go.Proofs.Ytolfekbhlfjniaa

set_option linter.unusedVariables false
set_option linter.unusedSimpArgs false
namespace Go.Proofs.Ytolfekbhlfjniaa
open Go.RowKit

theorem own_mono {w : World} {base base' : Nat} {e : TypeId} {n : Nat} {v : Value} {xs : List Value} (h : w.ownsRow base e 1 v n xs) (hb : base' ≤ base) : w.ownsRow base' e 1 v n xs := by
  obtain ⟨hl, hor⟩ := h
  refine ⟨hl, ?_⟩
  rcases hor with h | ⟨g', cap', cur, e, hg, h4⟩
  · exact .inl h
  · exact .inr ⟨g', cap', cur, e, Nat.le_trans hb hg, h4⟩
theorem rnumber_any (base br : Nat) (st : Option (List UInt8)) (size : Int) (w : World) (h : IsR w base br st) :
    Calls Try.prog 37 #[.pointer (some ⟨br, 0, none⟩), .int .i64 size] w fun e w' => e = .returned (.int .u64 (rNumV st size : Int)) ∧ RStep w w' base br (rNumS st size) := by
  by_cases hs : rSize size = true
  · have h2 : ∃ k : Nat, (k = 1 ∨ k = 2 ∨ k = 4 ∨ k = 8) ∧ size = (k : Int) := by
      unfold rSize at hs
      simp only [Bool.or_eq_true, beq_iff_eq] at hs
      exact ⟨size.toNat, by omega, by omega⟩
    obtain ⟨k, hk, rfl⟩ := h2
    refine (rnumber_fit base br st k hk w h).mono ?_
    rintro e w' ⟨rfl, hr⟩
    unfold rNumV rNumS
    rw [if_pos hs, if_pos hs]
    exact ⟨rfl, hr⟩
  · refine (rnumber_bad base br st size (by simpa using hs) w h).mono ?_
    rintro e w' ⟨rfl, hr⟩
    unfold rNumV rNumS
    rw [if_neg hs, if_neg hs]
    exact ⟨rfl, hr⟩
theorem rNumV_lt (st : Option (List UInt8)) (k : Nat) : rNumV st (k : Int) < 256 ^ k := by
  unfold rNumV
  split
  · have h1 := beVal_lt _ (rBy st (k : Int)) rfl
    exact Nat.lt_of_lt_of_le h1 (Nat.pow_le_pow_right (by decide) (rBy_le st k))
  · exact Nat.pow_pos (by decide)

set_option maxRecDepth 4000 in
set_option maxHeartbeats 1000000 in
theorem rtake_any (base br : Nat) (st : Option (List UInt8)) (size : Int) (w : World) (h : IsR w base br st) :
    Calls Try.prog 103 #[.func (.func 37) #[.pointer (some ⟨br, 0, none⟩)] #[], .int .i64 size] w fun e w' => e = .returned (.int .u64 (rNumV st size : Int)) ∧ RStep w w' base br (rNumS st size) := by
  have HNU := Lib.hid (rnumber_any base br st size w h)
  generalize rNumV st size = V at *
  go_enter Try.func103, Try.ntmps103
  go_wp2_with fail
  refine HNU.out.mono ?_
  rintro e w1 ⟨rfl, hr⟩
  have HR := Lib.hid hr; clear hr
  go_wp2
  go_ret
  exact ⟨rfl, HR.out⟩

set_option maxRecDepth 4000 in
set_option maxHeartbeats 1000000 in
theorem rint_any (base br : Nat) (st : Option (List UInt8)) (w : World) (h : IsR w base br st) :
    Calls Try.prog 71 #[.pointer (some ⟨br, 0, none⟩)] w fun e w' => e = .returned (.int .i64 (wrap64 (rNumV st 8 : Int))) ∧ RStep w w' base br (rNumS st 8) := by
  have HNU := Lib.hid (rtake_any base br st 8 w h)
  have hlt := rNumV_lt st 8
  change rNumV st 8 < 18446744073709551616 at hlt
  generalize rNumV st 8 = V at *
  go_enter Try.func71, Try.ntmps71
  go_wp2_with fail
  refine HNU.out.mono ?_
  rintro e w1 ⟨rfl, hr⟩
  have HR := Lib.hid hr; clear hr
  go_wp2
  go_ret
  exact ⟨rfl, HR.out⟩

/-- what Blob tells, and leaves -/
def rBlobV (st : Option (List UInt8)) : List UInt8 := if rNumV st 4 > 16777216 then [] else rBy (rNumS st 4) (rNumV st 4 : Nat)
def rBlobS (st : Option (List UInt8)) : Option (List UInt8) := if rNumV st 4 > 16777216 then none else rRest (rNumS st 4) (rNumV st 4 : Nat)
end Go.Proofs.Ytolfekbhlfjniaa

namespace Go.Proofs.Ytolfekbhlfjniaa.Dec

def mayDec (l : List UInt8) : Bool := l.all isDig && (decide (l = [48]) || (decide (l ≠ []) && decide (l.getD 0 0 ≠ 48)))
/-- an error's number -/
def decE (l : List UInt8) (most : Nat) : Nat := if mayDec l = true then (if most < val l then 5 else 0) else 4
def decN (l : List UInt8) (most : Nat) : Nat := if decE l most = 0 then val l else 0

theorem less_val {a b : List UInt8} (ha : a.all isDig = true) (hb : b.all isDig = true) (h : a.length = b.length) : Op.bytesLess a b = decide (val a < val b) := by
  induction a generalizing b with
  | nil =>
    obtain rfl : b = [] := List.length_eq_zero_iff.1 h.symm
    rfl
  | cons x a ih =>
    cases b with
    | nil => simp at h
    | cons y b =>
      simp only [List.all_cons, Bool.and_eq_true] at ha hb
      have hl : a.length = b.length := by simpa using h
      have h1 := ih ha.2 hb.2 hl
      have e1 : val (x :: a) = dval x * 10 ^ a.length + val a := by
        show valF 0 (x :: a) = _
        rw [valF_cons, valF_lin]; simp
      have e2 : val (y :: b) = dval y * 10 ^ b.length + val b := by
        show valF 0 (y :: b) = _
        rw [valF_cons, valF_lin]; simp
      have v1 := val_lt a ha.2
      have v2 := val_lt b hb.2
      rw [hl] at v1 e1
      have d1 := isDig_iff.1 ha.1
      have d2 := isDig_iff.1 hb.1
      have ex : dval x = x.toNat - 48 := rfl
      have ey : dval y = y.toNat - 48 := rfl
      rw [e1, e2]
      show (decide (x < y) || (x == y && Op.bytesLess a b)) = _
      rw [h1]
      generalize 10 ^ b.length = p at *
      rcases Nat.lt_trichotomy x.toNat y.toNat with hlt | heq | hgt
      · have : x < y := UInt8.lt_iff_toNat_lt.2 hlt
        have hm : (dval x + 1) * p ≤ dval y * p := Nat.mul_le_mul_right p (by omega)
        rw [Nat.add_mul] at hm
        have hv : dval x * p + val a < dval y * p + val b := by omega
        simp [this, hv]
      · have : x = y := UInt8.toNat_inj.1 heq
        subst this
        have hx : ¬ x < x := by rw [UInt8.lt_iff_toNat_lt]; omega
        simp [hx]
      · have : ¬ x < y := by rw [UInt8.lt_iff_toNat_lt]; omega
        have hne : ¬ x = y := fun e => by rw [e] at hgt; omega
        have hm : (dval y + 1) * p ≤ dval x * p := Nat.mul_le_mul_right p (by omega)
        rw [Nat.add_mul] at hm
        have hv : ¬ dval x * p + val a < dval y * p + val b := by omega
        simp [this, hne, hv]
theorem val_inj {a b : List UInt8} (ha : a.all isDig = true) (hb : b.all isDig = true) (h : a.length = b.length) (hv : val a = val b) : a = b := by
  rw [← val_text a ha, ← val_text b hb, h, hv]
theorem mayDec_all {l : List UInt8} (h : mayDec l = true) : l.all isDig = true := by unfold mayDec at h; rw [Bool.and_eq_true] at h; exact h.1
theorem mayDec_lead {l : List UInt8} (h : mayDec l = true) (h1 : 1 < l.length) : 10 ^ (l.length - 1) ≤ val l := by
  have ha := mayDec_all h
  unfold mayDec at h
  simp only [Bool.and_eq_true, Bool.or_eq_true, decide_eq_true_eq] at h
  cases l with
  | nil => simp at h1
  | cons x a =>
    have h2 : x ≠ 48 := by
      rcases h.2 with h | h
      · rw [h] at h1; simp at h1
      · simpa using h.2
    simp only [List.all_cons, Bool.and_eq_true] at ha
    have d := isDig_iff.1 ha.1
    have hx : x.toNat ≠ 48 := fun e => h2 (UInt8.toNat_inj.1 e)
    have e1 : val (x :: a) = dval x * 10 ^ a.length + val a := by
      show valF 0 (x :: a) = _
      rw [valF_cons, valF_lin]; simp
    rw [e1, List.length_cons, Nat.add_sub_cancel]
    have : 1 * 10 ^ a.length ≤ dval x * 10 ^ a.length := Nat.mul_le_mul_right _ (by unfold dval; omega)
    omega
theorem mayDec_ne {l : List UInt8} (h : mayDec l = true) : l ≠ [] := by
  intro e; subst e; simp [mayDec] at h
theorem above_iff {l : List UInt8} (h : mayDec l = true) (most : Nat) :
    (decide ((digits most).length < l.length) || (decide (l.length = (digits most).length) && !(Op.bytesLess l (digits most) || l == digits most))) = decide (most < val l) := by
  have ht := digits_all most
  have hv := digits_val most
  have hl := mayDec_all h
  have hn := mayDec_ne h
  have hpos : 0 < l.length := by rcases l with _ | ⟨x, l⟩; exact absurd rfl hn; simp
  have htp : 0 < (digits most).length := by
    have := digits_ne most
    rcases hd : digits most with _ | ⟨x, r⟩
    · exact absurd hd this
    · simp
  rcases Nat.lt_trichotomy (digits most).length l.length with h1 | h1 | h1
  · have g1 := val_lt _ ht
    rw [hv] at g1
    have g2 := mayDec_lead h (by omega)
    have g3 := Nat.pow_le_pow_right (n := 10) (by decide) (show (digits most).length ≤ l.length - 1 by omega)
    have : most < val l := by omega
    simp [h1, this]
  · have h2 := less_val hl ht h1.symm
    rw [hv] at h2
    rw [h2]
    have h3 : ¬ (digits most).length < l.length := by omega
    by_cases he : l = digits most
    · subst he
      simp [hv]
    · have hne : val l ≠ most := fun e => he (val_inj hl ht h1.symm (by rw [e, hv]))
      have : (l == digits most) = false := by simpa using he
      rw [this, Bool.eq_iff_iff]
      simp [h1]
      omega
  · have g1 := val_lt _ hl
    have g2 : 10 ^ l.length ≤ most := by
      rcases Nat.lt_or_ge most (10 ^ l.length) with h3 | h3
      · have := digits_length_le most (l.length - 1) (by rw [show l.length - 1 + 1 = l.length from by omega]; exact h3)
        omega
      · exact h3
    have h3 : ¬ (digits most).length < l.length := by omega
    have h4 : ¬ l.length = (digits most).length := by omega
    have h5 : ¬ most < val l := by omega
    simp [h3, h4, h5]
theorem digits_lead (n : Nat) (h : 1 ≤ n) : (digits n).getD 0 0 ≠ 48 := by
  induction n using Nat.strongRecOn with
  | _ n ih =>
    by_cases hn : n < 10
    · rw [digits_lt hn]
      intro e
      have : (dig n).toNat = 48 := congrArg UInt8.toNat e
      rw [dig_toNat] at this
      omega
    · rw [digits_ge hn]
      have h1 := ih (n / 10) (by omega) (by omega)
      have h2 := digits_ne (n / 10)
      rcases hd : digits (n / 10) with _ | ⟨x, r⟩
      · exact absurd hd h2
      · rw [hd] at h1; simpa using h1
theorem mayDec_digits (n : Nat) : mayDec (digits n) = true := by
  unfold mayDec
  rw [digits_all]
  rcases Nat.eq_zero_or_pos n with h | h
  · subst h; rw [digits_lt (by decide)]; rfl
  · have h1 := digits_lead n h
    have h2 := digits_ne n
    have h3 : (decide (digits n ≠ []) && decide ((digits n).getD 0 0 ≠ 48)) = true := by
      rw [Bool.and_eq_true, decide_eq_true_eq, decide_eq_true_eq]; exact ⟨h2, h1⟩
    rw [h3]; simp
theorem decE_digits (n most : Nat) : decE (digits n) most = if most < n then 5 else 0 := by unfold decE; rw [if_pos (mayDec_digits n), digits_val]
theorem decN_digits (n most : Nat) : decN (digits n) most = if most < n then 0 else n := by
  unfold decN
  rw [decE_digits, digits_val]
  by_cases h : most < n
  · rw [if_pos h, if_pos h]; rfl
  · rw [if_neg h, if_neg h]; rfl
theorem val_take_le (l : List UInt8) (k : Nat) : val (l.take k) ≤ val l := by
  have h := val_append (l.take k) (l.drop k)
  rw [List.take_append_drop] at h
  have : val (l.take k) * 1 ≤ val (l.take k) * 10 ^ (l.drop k).length := Nat.mul_le_mul_left _ (Nat.pow_pos (by decide))
  omega
end Go.Proofs.Ytolfekbhlfjniaa.Dec

set_option linter.unusedSimpArgs false
set_option linter.unusedVariables false
namespace Go.Proofs.Ytolfekbhlfjniaa
open Go.RowKit

def digV (c base : Int) : Int :=
  if 48 ≤ c ∧ c ≤ 57 then (if base ≤ c - 48 then -1 else c - 48) else if 97 ≤ c ∧ c ≤ 102 then (if base ≤ c - 87 then -1 else c - 87) else -1

theorem two_ret {P : Program} {a b c d : Int} {k k' : IntKind} (h1 : a = b) (h2 : c = d) : Ending.returned (.tuple #[.int k a, .int k' c]) = .returned (.tuple #[.int k b, .int k' d]) := by rw [h1, h2]
end Go.Proofs.Ytolfekbhlfjniaa

namespace Go.Proofs.Ytolfekbhlfjniaa.Hex

def hexd (n : Nat) : UInt8 := if n < 10 then UInt8.ofNat (48 + n) else UInt8.ofNat (87 + n)
def hexL : List UInt8 → List UInt8
  | [] => []
  | x :: l => hexd (x.toNat / 16) :: hexd (x.toNat % 16) :: hexL l
def isHex (c : UInt8) : Bool := (decide (48 ≤ c.toNat) && decide (c.toNat ≤ 57)) || (decide (97 ≤ c.toNat) && decide (c.toNat ≤ 102))
def hval (c : UInt8) : Nat := if c.toNat ≤ 57 then c.toNat - 48 else c.toNat - 87
/-- two by two -/
def unhex : List UInt8 → List UInt8
  | a :: b :: l => UInt8.ofNat (16 * hval a + hval b) :: unhex l
  | _ => []
def mayHex (l : List UInt8) : Bool := l.all isHex && decide (l.length % 2 = 0)

theorem hexd_toNat {n : Nat} (h : n < 16) : (hexd n).toNat = if n < 10 then 48 + n else 87 + n := by
  unfold hexd
  split <;> rw [UInt8.toNat_ofNat'] <;> omega
theorem hexd_is {n : Nat} (h : n < 16) : isHex (hexd n) = true := by
  unfold isHex
  rw [hexd_toNat h]
  split <;> simp <;> omega
theorem hval_hexd {n : Nat} (h : n < 16) : hval (hexd n) = n := by
  unfold hval
  rw [hexd_toNat h]
  split <;> split <;> omega
theorem isHex_iff {c : UInt8} : isHex c = true ↔ (48 ≤ c.toNat ∧ c.toNat ≤ 57) ∨ (97 ≤ c.toNat ∧ c.toNat ≤ 102) := by unfold isHex; simp
theorem hval_lt {c : UInt8} (h : isHex c = true) : hval c < 16 := by rw [isHex_iff] at h; unfold hval; split <;> omega
theorem hexd_hval {c : UInt8} (h : isHex c = true) : hexd (hval c) = c := by
  apply UInt8.toNat_inj.1
  rw [hexd_toNat (hval_lt h)]
  rw [isHex_iff] at h
  unfold hval
  split <;> split <;> omega
theorem hexL_length (l : List UInt8) : (hexL l).length = 2 * l.length := by
  induction l with
  | nil => rfl
  | cons x l ih => show (hexL l).length + 1 + 1 = _; rw [ih, List.length_cons]; omega
theorem hexL_append (l m : List UInt8) : hexL (l ++ m) = hexL l ++ hexL m := by
  induction l with
  | nil => rfl
  | cons x l ih => show _ :: _ :: hexL (l ++ m) = _; rw [ih]; rfl
theorem hexL_at (l : List UInt8) (k : Nat) (x : UInt8) (h : l[k / 2]? = some x) : (hexL l)[k]? = some (hexd (if k % 2 = 1 then x.toNat % 16 else x.toNat / 16)) := by
  induction l generalizing k with
  | nil => simp at h
  | cons y l ih =>
    match k with
    | 0 => injection h with h; subst h; rfl
    | 1 => injection h with h; subst h; rfl
    | k + 2 =>
      have h2 : l[k / 2]? = some x := by rw [show (k + 2) / 2 = k / 2 + 1 from by omega] at h; simpa using h
      have := ih k h2
      show (hexL l)[k]? = _
      rw [this, show (k + 2) % 2 = k % 2 from by omega]
theorem hexL_all (l : List UInt8) : (hexL l).all isHex = true := by
  induction l with
  | nil => rfl
  | cons x l ih =>
    have := x.toNat_lt
    show ((hexd (x.toNat / 16) :: hexd (x.toNat % 16) :: hexL l).all isHex) = true
    rw [List.all_cons, List.all_cons, ih, hexd_is (by omega), hexd_is (by omega)]; rfl
theorem mayHex_hexL (l : List UInt8) : mayHex (hexL l) = true := by unfold mayHex; rw [hexL_all, hexL_length]; simp
theorem unhex_hexL (l : List UInt8) : unhex (hexL l) = l := by
  induction l with
  | nil => rfl
  | cons x l ih =>
    have := x.toNat_lt
    show UInt8.ofNat (16 * hval (hexd (x.toNat / 16)) + hval (hexd (x.toNat % 16))) :: unhex (hexL l) = _
    rw [ih, hval_hexd (by omega), hval_hexd (by omega), show 16 * (x.toNat / 16) + x.toNat % 16 = x.toNat from by omega]
    simp
theorem hexL_unhex (l : List UInt8) (h : l.all isHex = true) (he : l.length % 2 = 0) : hexL (unhex l) = l := by
  match l, h, he with
  | [], _, _ => rfl
  | [a], _, he => simp at he
  | a :: b :: l, h, he =>
    rw [List.all_cons, List.all_cons, Bool.and_eq_true, Bool.and_eq_true] at h
    have ha := hval_lt h.1
    have hb := hval_lt h.2.1
    have ih := hexL_unhex l h.2.2 (by simp at he; omega)
    show hexd ((UInt8.ofNat (16 * hval a + hval b)).toNat / 16) :: hexd ((UInt8.ofNat (16 * hval a + hval b)).toNat % 16) :: hexL (unhex l) = _
    rw [ih, UInt8.toNat_ofNat', show (16 * hval a + hval b) % 2 ^ 8 / 16 = hval a from by omega, show (16 * hval a + hval b) % 2 ^ 8 % 16 = hval b from by omega, hexd_hval h.1, hexd_hval h.2.1]
/-- what is told behind k digits: the bytes that are whole, and a first digit that waits (-1: none) -/
def outK (l : List UInt8) (k : Nat) : List UInt8 := unhex (l.take (k / 2 * 2))
def highK (l : List UInt8) (k : Nat) : Int := if k % 2 = 1 then (hval (l.getD (k - 1) 0) : Int) else -1
theorem unhex_snoc2 (l : List UInt8) (a b : UInt8) (h : l.length % 2 = 0) : unhex (l ++ [a, b]) = unhex l ++ [UInt8.ofNat (16 * hval a + hval b)] := by
  match l, h with
  | [], _ => rfl
  | [x], h => simp at h
  | x :: y :: l, h =>
    have ih := unhex_snoc2 l a b (by simp at h; omega)
    show _ :: unhex (l ++ [a, b]) = _ :: (unhex l ++ _)
    rw [ih]
theorem take2 (l : List UInt8) (k : Nat) (h : k + 1 < l.length) : l.take (k + 2) = l.take k ++ [l.getD k 0, l.getD (k + 1) 0] := by
  rw [List.take_add, List.getD_eq_getElem?_getD, List.getD_eq_getElem?_getD, List.getElem?_eq_getElem (by omega), List.getElem?_eq_getElem h]
  congr 1
  rw [List.drop_eq_getElem_cons (by omega), List.drop_eq_getElem_cons h]
  rfl
theorem outK_even (l : List UInt8) (k : Nat) (h : k % 2 = 0) : outK l (k + 1) = outK l k := by unfold outK; rw [show (k + 1) / 2 * 2 = k / 2 * 2 from by omega]
theorem outK_odd (l : List UInt8) (k : Nat) (h : k % 2 = 1) (hk : k < l.length) : outK l (k + 1) = outK l k ++ [UInt8.ofNat (16 * hval (l.getD (k - 1) 0) + hval (l.getD k 0))] := by
  unfold outK
  have e : (k + 1) / 2 * 2 = (k - 1) + 2 := by omega
  have e2 : k / 2 * 2 = k - 1 := by omega
  have h2 := take2 l (k - 1) (by omega)
  rw [show k - 1 + 1 = k from by omega] at h2
  rw [e, e2, h2, unhex_snoc2 _ _ _ (by rw [List.length_take]; omega)]
theorem highK_even (l : List UInt8) (k : Nat) (h : k % 2 = 0) : highK l k = -1 ∧ highK l (k + 1) = (hval (l.getD k 0) : Int) := by
  unfold highK
  rw [if_neg (by omega), if_pos (by omega)]; exact ⟨rfl, rfl⟩
theorem highK_odd (l : List UInt8) (k : Nat) (h : k % 2 = 1) : highK l k = (hval (l.getD (k - 1) 0) : Int) ∧ highK l (k + 1) = -1 := by
  unfold highK
  rw [if_pos h, if_neg (by omega)]; exact ⟨rfl, rfl⟩
theorem unhex_length : ∀ l : List UInt8, (unhex l).length ≤ l.length
  | [] => Nat.le_refl _
  | [_] => Nat.zero_le _
  | a :: b :: l => by have := unhex_length l; show (unhex l).length + 1 ≤ l.length + 1 + 1; omega
theorem outK_length (l : List UInt8) (k : Nat) : (outK l k).length ≤ l.length := Nat.le_trans (unhex_length _) (by rw [List.length_take]; omega)
end Go.Proofs.Ytolfekbhlfjniaa.Hex

set_option linter.unusedSimpArgs false
set_option linter.unusedVariables false
namespace Go.Proofs.Ytolfekbhlfjniaa
open Go.RowKit

/-- 'append(v, x...)' of bytes, in a region that draws its order -/
theorem step_append_bytes {ops : Array Oper} {o : Oper} {a : Act} {K : Act → World → Prop} {Q : Exit → Act → World → Prop} {E : Prop} {w : World} (hgd : o.guard = none) (s x : Operand)
    (ho : o.op = .call { callee := .builtin .append, args := #[s, x], argTypes := #[40, 40] }) (base : Nat) (v : Value) (n : Nat) (xs : List Value) (hs : a.eval s = v) (hown : w.ownsRow base 5 1 v n xs)
    (y : Value) (l : List UInt8) (hx : a.eval x = y) (hb : BS w y l) (hn : n + l.length ≤ 1099511627776) (hbase : base ≤ w.heap.size)
    (h : ∀ v' w', w'.ownsRow base 5 1 v' (n + l.length) (xs ++ bytesV l) → w.grownBy w' v.ownBlock → K (a.put o.dst v') w') :
    if Region.wanted o (yielded ops a.tmps) = true then Oper.wp Try.prog o a w K Q else E := by
  have hw : Region.wanted o (yielded ops a.tmps) = true := by simp [Region.wanted, hgd]
  rw [if_pos hw]
  obtain ⟨v', w', hr, g1, g2, _, _⟩ := run_append_bytes w base o.type v n xs hown y l hb hn hbase
  exact Lib.wp_append_run w s x _ _ ho v _ hs hx v' w' hr (h v' w' g1 g2)
theorem row_bytes (w : World) (l : List UInt8) (n : Nat) (hn : l.length = n) (hc : n ≤ maxLen) : BS (w.alloc (.cells (rowB l) 5)) (.slice (some ⟨w.heap.size, 0, none⟩) n n) l := by
  have := BS.of_row (w := w.alloc (.cells (rowB l) 5)) (new_rowW _ _ w.heap.size rfl) 0 n n (by omega) (Nat.le_refl _) hc
  rwa [List.drop_zero, List.take_of_length_le (by omega)] at this
set_option maxRecDepth 10000 in
theorem hex_at (q : Nat) (h : q < 16) (W : World) : (Instr.index 9 (.string ⟨#[48, 49, 50, 51, 52, 53, 54, 55, 56, 57, 97, 98, 99, 100, 101, 102]⟩) (.int .u8 (q : Int))).run Try.prog W = .ok (.int .u8 (((Hex.hexd q).toNat : Nat) : Int)) W := by
  rcases (by omega : q = 0 ∨ q = 1 ∨ q = 2 ∨ q = 3 ∨ q = 4 ∨ q = 5 ∨ q = 6 ∨ q = 7 ∨ q = 8 ∨ q = 9 ∨ q = 10 ∨ q = 11 ∨ q = 12 ∨ q = 13 ∨ q = 14 ∨ q = 15) with rfl | rfl | rfl | rfl | rfl | rfl | rfl | rfl | rfl | rfl | rfl | rfl | rfl | rfl | rfl | rfl <;>
    (simp only [Instr.index, run_underlying Try.underlying9, asIntOf]; rfl)
end Go.Proofs.Ytolfekbhlfjniaa

set_option linter.unusedVariables false
set_option linter.unusedSimpArgs false
namespace Go.Proofs.Ytolfekbhlfjniaa
open Go.RowKit

set_option maxHeartbeats 400000 in
theorem rpower_any (n : Nat) (hn : n ≤ 7) (w : World) :
    Calls Try.prog 105 #[.int .i64 (n : Int)] w fun e w' => e = .returned (.int .u64 ((256 ^ n : Nat) : Int)) ∧ w = w' := by
  go_enter Try.func105, Try.ntmps105
  go_wp2
  go_loop [3, 4] (fun p i => ∃ (k P : Nat), k ≤ n ∧ i = .int .i64 k ∧ p = .int .u64 (P : Int) ∧ P = 256 ^ k) (fun _ i => n - (intOf i).toNat)
  case atStart => exact ⟨0, 1, Nat.zero_le _, rfl, rfl, rfl⟩
  case round =>
    obtain ⟨k, P, hk, rfl, rfl, hP⟩ := hrel
    have HP := Lib.hid hP; clear hP
    by_cases hlt : k < n
    · have hb : P * 256 ≤ 72057594037927936 := by
        have h1 : P * 256 = 256 ^ (k + 1) := by rw [HP.out, Nat.pow_succ]
        rw [h1]
        exact Nat.pow_le_pow_right (n := 256) (by decide) (show k + 1 ≤ 7 by omega)
      go_wp2
      go_round
      case rel => exact ⟨k + 1, P * 256, by omega, by go_num, by go_num, by rw [HP.out, Nat.pow_succ]⟩
      case measure => simp [intOf]; omega
    · obtain rfl : k = n := by omega
      go_wp2
      go_ret
      exact ⟨by have := HP.out; subst this; rfl, rfl⟩

set_option maxHeartbeats 400000 in
theorem rmaySize_any (s : Int) (w : World) :
    Calls Try.prog 104 #[.int .i64 s] w fun e w' => e = .returned (.bool (Wire.maySize s)) ∧ w = w' := by
  have HM : Hid (Wire.maySize s = (decide (s = 1) || decide (s = 2) || decide (s = 4) || decide (s = 8))) := Lib.hid rfl
  go_enter Try.func104, Try.ntmps104
  go_wp2
  all_goals
    go_ret
    exact ⟨ret_boolW (by rw [HM.out, Bool.eq_iff_iff]; simp_all), rfl⟩

theorem ret_intW {k : IntKind} {a b : Int} (h : a = b) : Ending.returned (.int k a) = .returned (.int k b) := by rw [h]
/-- a number's bytes; none: it has no room -/
def pNum (N : Nat) (s : Int) : Option (List UInt8) := if Wire.maySize s = true ∧ N < 256 ^ s.toNat then some (Wire.be N s.toNat) else none
def pGet (o : Option (List UInt8)) : List UInt8 := o.getD []

theorem be_at (N s j : Nat) (h : j < s) : (Wire.be N s)[j]? = some (UInt8.ofNat (N / 256 ^ (s - 1 - j) % 256)) := by
  have h1 : s = j + (s - j) := by omega
  have h2 := Wire.be_drop N j (s - j)
  rw [← h1] at h2
  have h3 : (Wire.be N s)[j]? = ((Wire.be N s).drop j)[0]? := by rw [List.getElem?_drop]; rfl
  rw [h3, h2, show s - j = (s - 1 - j) + 1 from by omega, Wire.be_cons]
  rfl

def RNum (w : World) (t : Nat) (L : List UInt8) (o i : Value) (wr : World) : Prop :=
  ∃ j m : Nat, j + m = t ∧ ((∃ m' : Nat, m = m' + 1 ∧ i = .int .i64 (m' : Int)) ∨ (m = 0 ∧ i = .int .i64 (-1))) ∧ Below w.heap.size w wr ∧ wr.ownsRow w.heap.size 5 1 o j (bytesV (L.take j))

set_option maxRecDepth 4000 in
set_option maxHeartbeats 1000000 in
theorem rNumber_any (N : Nat) (hN : N < 18446744073709551616) (s : Int) (w : World) :
    Calls Try.prog 87 #[.int .u64 (N : Int), .int .i64 s] w fun e w' => ∃ v, e = .returned (.tuple #[v, .bool (pNum N s).isSome]) ∧ w'.ownsRow w.heap.size 5 1 v (pGet (pNum N s)).length (bytesV (pGet (pNum N s))) ∧ Below w.heap.size w w' := by
  by_cases hs : Wire.maySize s = true
  · obtain ⟨t, rfl, ht, ht8⟩ : ∃ t : Nat, s = (t : Int) ∧ (t = 1 ∨ t = 2 ∨ t = 4 ∨ t = 8) ∧ t ≤ 8 := by
      unfold Wire.maySize at hs
      simp only [Bool.or_eq_true, decide_eq_true_eq] at hs
      rcases hs with ((h | h) | h) | h
      · exact ⟨1, h, by omega, by omega⟩
      · exact ⟨2, h, by omega, by omega⟩
      · exact ⟨4, h, by omega, by omega⟩
      · exact ⟨8, h, by omega, by omega⟩
    have HM := Lib.hid (rmaySize_any (t : Int))
    rw [hs] at HM
    have HP : Hid (pNum N (t : Int) = if N < 256 ^ t then some (Wire.be N t) else none) := Lib.hid (by
      unfold pNum
      rw [Int.toNat_natCast]
      by_cases h : N < 256 ^ t
      · rw [if_pos ⟨hs, h⟩, if_pos h]
      · rw [if_neg (fun h' => h h'.2), if_neg h])
    clear hs
    by_cases hfit : N < 256 ^ t
    · rw [if_pos hfit] at HP
      have hlen := Wire.be_length N t
      have HBE := Lib.hid (fun j h => be_at N t j h)
      rw [HP.out]
      have HL := Lib.hid hlen
      generalize hL : Wire.be N t = L at *
      have hp8 : t = 8 ∨ (t < 8 ∧ ∃ P : Nat, 256 ^ t = P ∧ N < P ∧ ∀ W, Calls Try.prog 105 #[.int .i64 (t : Int)] W fun e w' => e = .returned (.int .u64 (P : Int)) ∧ W = w') := by
        by_cases h : t = 8
        · exact .inl h
        · exact .inr ⟨by omega, _, rfl, hfit, fun W => rpower_any t (by omega) W⟩
      clear hfit hL hlen
      have hstart : ∃ W0, True := ⟨w, trivial⟩
      clear hstart
      go_enter Try.func87, Try.ntmps87
      rcases hp8 with h8 | ⟨h8, P, -, hNP, hpw⟩
      all_goals
        have h8' : t < 8 ∨ 8 ≤ t := by omega
        try (have h9 : 8 ≤ t := by omega
             clear h8)
        try have hPN : decide (P ≤ N) = false := by simpa using hNP
        try have hPN2 : ¬ (P ≤ N) := by omega
        try have hPN3 : (N : Int) < (P : Int) := by omega
        try have HPW := Lib.hid hpw
        try clear hpw
        clear h8'
        go_wp2_with (first
          | (go_at_call 104; refine (HM.out _).mono ?_; rintro e w' ⟨rfl, rfl⟩)
          | (go_at_call 105; refine (HPW.out _).mono ?_; rintro e w' ⟨rfl, rfl⟩))
      all_goals
        go_loopw [6, 7] (fun o i wr => RNum w t L o i wr)
          (fun _ i _ => (intOf i + 1).toNat)
        case atStart => exact ⟨0, t, by omega, .inl ⟨t - 1, by omega, by go_num⟩, Below.refl _ _, World.ownsRow_nil _ _ _ _⟩
        case round =>
          obtain ⟨j, m, hjm, hi, hbw, hown⟩ := hrel
          have HO := Lib.hid hown; clear hown
          have HBW := Lib.hid hbw; clear hbw
          rcases hi with ⟨m', rfl, rfl⟩ | ⟨rfl, rfl⟩
          · have HPW2 := Lib.hid (fun W => rpower_any m' (by omega) W)
            have hb := HBE.out j (by omega)
            rw [show t - 1 - j = m' from by omega] at hb
            have hpp : 0 < 256 ^ m' := Nat.pow_pos (by decide)
            have HT := Lib.hid (take_at hb)
            generalize 256 ^ m' = P2 at *
            have hQ := Nat.div_le_self N P2
            have hq : (N : Int) / (P2 : Int) = ((N / P2 : Nat) : Int) := by simp
            generalize N / P2 = Q at *
            have hQ' : (Q : Int) < 18446744073709551616 := by omega
            obtain ⟨y, hy⟩ : ∃ y, UInt8.ofNat (Q % 256) = y := ⟨_, rfl⟩
            have hto : (y.toNat : Int) = (Q : Int) % 256 := by rw [← hy, UInt8.toNat_ofNat']; omega
            rw [hy] at HT
            clear hy hb
            have hrb : ∀ W : World, BS (W.alloc (.cells #[.int .u8 (y.toNat : Int)] 5)) (.slice (some ⟨W.heap.size, 0, none⟩) 1 1) [y] := fun W => row_bytes W [y] 1 rfl (by decide)
            rw [hto] at hrb
            have HRB := Lib.hid hrb
            clear hrb hto
            go_wp2_with (first
              | (go_at_call 105; refine (HPW2.out _).mono ?_; rintro e w' ⟨rfl, rfl⟩)
              | (at_builtin; refine wpList_append_bytes rfl _ _ rfl w.heap.size _ _ _ rfl (HO.out.alloc _) _ [y] rfl (HRB.out _) ?c1 ?c2 ?_))
            case c1 => simp; omega
            case c2 => have := HBW.out.size; simp; omega
            intro v2 w2 hown2 hg2 hn2 hat2
            have HB2 := Lib.hid ((HBW.out.alloc HBW.out.size _).grown hg2 (by have := HBW.out.size; simp; omega) (fun q hq => (HO.out.lt q hq).1))
            have HO2 : Hid (w2.ownsRow w.heap.size 5 1 v2 (j + 1) (bytesV (L.take (j + 1)))) := Lib.hid (by rw [HT.out, bytesV_append]; exact hown2)
            clear hown2 hg2 hn2 hat2
            go_wp2
            go_roundw
            case rel =>
              have key : RNum w t L v2 (.int .i64 ((m' : Int) - 1)) w2 := by
                refine ⟨j + 1, m', by omega, ?_, HB2.out, HO2.out⟩
                cases m' with
                | zero => exact .inr ⟨rfl, by go_num⟩
                | succ r => exact .inl ⟨r, rfl, by go_num⟩
              first | exact key | exact ⟨_, _, _, _, _, _, _, _, _, _, _, _, _, _, _, key, rfl⟩
            case measure => simp [intOf]; try omega
          · obtain rfl : j = t := by omega
            have hown := HO.out
            rw [List.take_of_length_le (by have := HL.out; omega), ← HL.out] at hown
            have HF := Lib.hid hown
            clear hown
            go_wp2
            go_ret2
            exact ⟨_, rfl, HF.out, HBW.out⟩
    · rw [if_neg hfit] at HP
      rw [HP.out]
      have ht8 : t < 8 := by
        rcases Nat.lt_or_ge t 8 with h | h
        · exact h
        · have : t = 8 := by omega
          subst this
          exact absurd (by simpa using hN) hfit
      have HPW := Lib.hid (fun W => rpower_any t (by omega) W)
      generalize 256 ^ t = P at *
      go_enter Try.func87, Try.ntmps87
      go_wp2_with (first
        | (go_at_call 104; refine (HM.out _).mono ?_; rintro e w' ⟨rfl, rfl⟩)
        | (go_at_call 105; refine (HPW.out _).mono ?_; rintro e w' ⟨rfl, rfl⟩))
      go_ret2
      exact ⟨_, rfl, World.ownsRow_nil _ _ _ _, Below.refl _ _⟩
  · have HM := Lib.hid (rmaySize_any s)
    have hs' : Wire.maySize s = false := by simpa using hs
    rw [hs'] at HM
    have hp : pNum N s = none := by unfold pNum; rw [if_neg (fun h => hs h.1)]
    rw [hp]
    clear hs hs' hp
    go_enter Try.func87, Try.ntmps87
    go_wp2_with fail
    refine (HM.out _).mono ?_
    rintro e w1 ⟨rfl, rfl⟩
    go_wp2
    go_ret2
    exact ⟨_, rfl, World.ownsRow_nil _ _ _ _, Below.refl _ _⟩
end Go.Proofs.Ytolfekbhlfjniaa

set_option linter.unusedVariables false
set_option linter.unusedSimpArgs false
namespace Go.Proofs.Ytolfekbhlfjniaa
open Go.RowKit

theorem BS.head {w : World} {p : Option Addr} {n cap k : Nat} {l : List UInt8} (h : BS w (.slice p n cap) l) (hk : k ≤ l.length) : BS w (.slice p k cap) (l.take k) := by
  obtain ⟨p', cap', e, h1, h2, h3⟩ := h
  injection e with e1 e2 e3
  subst e1; subst e3
  have hl : (l.take k).length = k := by rw [List.length_take]; omega
  refine ⟨_, _, by rw [hl], by omega, h2, fun hne => ?_⟩
  obtain ⟨b, o, e, hb, hc⟩ := h3 (fun h => hne (by rw [h]; simp))
  refine ⟨b, o, e, hb, fun i x hx => hc i x ?_⟩
  have hi : i < k := by have := (List.getElem?_eq_some_iff.1 hx).1; omega
  rwa [List.getElem?_take_of_lt hi] at hx
theorem BS.bounds' {w : World} {q : Option Addr} {n cap : Nat} {l : List UInt8} (h : BS w (.slice q n cap) l) : n = l.length ∧ n ≤ cap ∧ cap ≤ maxLen := by
  obtain ⟨p', cap', e, h1, h2, h3⟩ := h
  injection e with e1 e2 e3
  subst e1; subst e3
  exact ⟨e2, by omega, h2⟩
theorem BS.drewN' {w : World} {v : Value} {l : List UInt8} (h : BS w v l) (n : Nat) : BS (w.drewN n) v l := h.below (below_drewN w n)
/-- where a slice's tail lies -/
def tailAt (p : Option Addr) (cap k : Nat) : Option Addr := if cap - k = 0 then p.map fun a => a else p.map fun a => a.add k
theorem BS.tail {w : World} {p : Option Addr} {n cap k : Nat} {l : List UInt8} (h : BS w (.slice p n cap) l) (hk : k ≤ l.length) : BS w (.slice (tailAt p cap k) (n - k) (cap - k)) (l.drop k) := by
  obtain ⟨p', cap', e, h1, h2, h3⟩ := h
  injection e with e1 e2 e3
  subst e1; subst e3; subst e2
  have hl : (l.drop k).length = l.length - k := by rw [List.length_drop]
  refine ⟨_, _, by rw [hl], by omega, by omega, fun hne => ?_⟩
  have hlt : k < l.length := by
    rcases Nat.lt_or_ge k l.length with h | h
    · exact h
    · exact absurd (List.drop_of_length_le h) hne
  obtain ⟨b, o, rfl, hb, hc⟩ := h3 (fun h => by rw [h] at hlt; simp at hlt)
  refine ⟨b, o + k, ?_, hb, fun i x hx => ?_⟩
  · unfold tailAt
    rw [if_neg (by omega), Option.map_some, Go.WideShapes.add_plain]
  · rw [List.getElem?_drop] at hx
    rw [Nat.add_assoc]
    exact hc (k + i) x hx
theorem run_head' (q : Option Addr) (n cap k : Nat) (h : k ≤ cap) (W : World) : (Instr.slice 40 (.slice q n cap) none (some (.int .i64 (k : Int))) none).run Try.prog W = .ok (.slice q k cap) W := by
  have ht : Try.prog.underlying 40 = some (.slice (Try.prog.elem 40)) := by kernel_rfl
  have hz : ∀ W : World, (sizeOf (Try.prog.elem 40)).run Try.prog W = .ok 1 W := fun W => by
    rw [show Try.prog.elem 40 = 5 from by kernel_rfl]; simp [go_sem]
  rw [run_slice_h W _ _ _ _ ht _ _ (by omega) (by omega), hz]
  cases q <;> simp [sliced, Result.andThen, Addr.add]
theorem run_tail (q : Option Addr) (n cap k : Nat) (h : k ≤ n) (h2 : n ≤ cap) (W : World) : (Instr.slice 40 (.slice q n cap) (some (.int .i64 (k : Int))) none none).run Try.prog W = .ok (.slice (tailAt q cap k) (n - k) (cap - k)) W := by
  have ht : Try.prog.underlying 40 = some (.slice (Try.prog.elem 40)) := by kernel_rfl
  have hz : ∀ W : World, (sizeOf (Try.prog.elem 40)).run Try.prog W = .ok 1 W := fun W => by
    rw [show Try.prog.elem 40 = 5 from by kernel_rfl]; simp [go_sem]
  rw [run_slice_l W _ _ _ _ ht _ _ (by omega) (by omega), hz]
  unfold tailAt
  by_cases hc : cap - k = 0
  · cases q <;> simp [sliced, Result.andThen, hc]
    intro h; omega
  · cases q <;> simp [sliced, Result.andThen, hc]
    intro h; omega

def tCut (b : List UInt8) (n : Int) : Option (List UInt8 × List UInt8) := if 0 ≤ n ∧ n ≤ b.length then some (b.take n.toNat, b.drop n.toNat) else none
def cutX (b : List UInt8) (n : Int) : List UInt8 := ((tCut b n).map Prod.fst).getD []
def cutY (b : List UInt8) (n : Int) : List UInt8 := ((tCut b n).map Prod.snd).getD []

set_option maxRecDepth 4000 in
set_option maxHeartbeats 1000000 in
theorem rCut_any (v : Value) (b : List UInt8) (n : Int) (w : World) (hv : BS w v b) :
    Calls Try.prog 75 #[v, .int .i64 n] w fun e w' => ∃ x y, e = .returned (.tuple #[x, y, .bool (tCut b n).isSome]) ∧ (∀ w0, BS w0 v b → BS w0 x (cutX b n) ∧ BS w0 y (cutY b n)) ∧ ∃ nd, w' = w.drewN nd := by
  have HV := Lib.hid hv
  by_cases hf : 0 ≤ n ∧ n ≤ b.length
  · obtain ⟨k, rfl⟩ := Int.eq_ofNat_of_zero_le hf.1
    have hk : k ≤ b.length := by omega
    have HT : Hid (tCut b (k : Int) = some (b.take k, b.drop k)) := Lib.hid (by unfold tCut; rw [if_pos hf, Int.toNat_natCast])
    have HXY : Hid (cutX b (k : Int) = b.take k ∧ cutY b (k : Int) = b.drop k) := Lib.hid (by unfold cutX cutY; rw [HT.out]; exact ⟨rfl, rfl⟩)
    rw [HT.out, HXY.out.1, HXY.out.2]
    obtain ⟨p, cap, rfl, g1, g2, -⟩ := hv
    have HXY2 := Lib.hid (fun w0 (h0 : BS w0 (.slice p b.length cap) b) => (⟨h0.head hk, h0.tail hk⟩ : BS w0 _ _ ∧ BS w0 _ _))
    have f1 := run_head' p b.length cap k (by omega)
    have f2 := run_tail p b.length cap k hk g1
    unfold maxLen at g2
    rw [show (some (b.take k, b.drop k)).isSome = true from rfl]
    clear HT HXY hf
    generalize tailAt p cap k = q at *
    generalize b.length = m at *
    go_enter Try.func75, Try.ntmps75
    go_wp2_with fail
    go_quiet (fail)
    go_wp2
    go_ret3
    exact ⟨_, _, rfl, HXY2.out, _, rfl⟩
  · have HT : Hid (tCut b n = none) := Lib.hid (if_neg hf)
    have HXY : Hid (cutX b n = [] ∧ cutY b n = []) := Lib.hid (by unfold cutX cutY; rw [HT.out]; exact ⟨rfl, rfl⟩)
    rw [HT.out, HXY.out.1, HXY.out.2]
    obtain ⟨p, cap, rfl, g1, g2, -⟩ := hv
    unfold maxLen at g2
    rw [show (none : Option (List UInt8 × List UInt8)).isSome = false from rfl]
    clear HT HXY
    generalize b.length = m at *
    by_cases h0 : n < 0
    · go_enter Try.func75, Try.ntmps75
      go_wp2
      go_ret3
      exact ⟨_, _, rfl, fun _ _ => ⟨BS.nil _, BS.nil _⟩, 0, rfl⟩
    · have h1 : (m : Int) < n := by omega
      go_enter Try.func75, Try.ntmps75
      go_wp2
      go_ret3
      exact ⟨_, _, rfl, fun _ _ => ⟨BS.nil _, BS.nil _⟩, 0, rfl⟩

theorem maySize_rSize (s : Int) : Wire.maySize s = rSize s := by
  unfold Wire.maySize rSize
  rw [Bool.eq_iff_iff]; simp
/-- a number that is taken off *-/
def tNum (b : List UInt8) (s : Int) : Option (Nat × List UInt8) := if rSize s then (tCut b s).map fun p => (beVal p.1, p.2) else none
def numV (b : List UInt8) (s : Int) : Nat := ((tNum b s).map Prod.fst).getD 0
def numR (b : List UInt8) (s : Int) : List UInt8 := ((tNum b s).map Prod.snd).getD []
theorem rNum_t (l : List UInt8) (s : Int) : rNumS (some l) s = (tNum l s).map Prod.snd ∧ rNumV (some l) s = numV l s := by
  unfold rNumS rNumV numV tNum rBy rTake rRest tCut
  by_cases h : rSize s = true
  · by_cases h2 : 0 ≤ s ∧ s ≤ l.length
    · simp [h, h2]
    · simp [h, h2]; rfl
  · simp [h]
theorem sum_step (x : List UInt8) (k i : Nat) (c : UInt8) (hk : k ≤ 8) (hx : x.length = k) (h : x[i]? = some c) :
    c.toNat * 256 ^ (k - 1 - i) < 18446744073709551616 ∧ beVal (x.take i) * 256 ^ (k - i) + c.toNat * 256 ^ (k - 1 - i) = beVal (x.take (i + 1)) * 256 ^ (k - (i + 1)) ∧ beVal (x.take (i + 1)) * 256 ^ (k - (i + 1)) < 18446744073709551616 := by
  have hi := (List.getElem?_eq_some_iff.1 h).1
  have h1 : beVal (x.take (i + 1)) = beVal (x.take i) * 256 + c.toNat := (beVal_step h (by omega)).2
  have h2 : k - 1 - i = k - (i + 1) := by omega
  have h3 : k - i = (k - (i + 1)) + 1 := by omega
  have h4 := beVal_lt (i + 1) (x.take (i + 1)) (by rw [List.length_take]; omega)
  have h5 : beVal (x.take (i + 1)) * 256 ^ (k - (i + 1)) < 18446744073709551616 := by
    have h6 : beVal (x.take (i + 1)) * 256 ^ (k - (i + 1)) < 256 ^ (i + 1) * 256 ^ (k - (i + 1)) := Nat.mul_lt_mul_of_pos_right h4 (Nat.pow_pos (by decide))
    rw [← Nat.pow_add] at h6
    have h7 : 256 ^ (i + 1 + (k - (i + 1))) ≤ 256 ^ 8 := Nat.pow_le_pow_right (by decide) (by omega)
    exact Nat.lt_of_lt_of_le h6 h7
  have h8 : beVal (x.take i) * 256 ^ (k - i) + c.toNat * 256 ^ (k - 1 - i) = beVal (x.take (i + 1)) * 256 ^ (k - (i + 1)) := by
    rw [h1, h2, h3, Nat.pow_succ, Nat.add_mul, Nat.mul_assoc, Nat.mul_comm 256]
  exact ⟨by omega, h8, h5⟩

set_option maxRecDepth 4000 in
set_option maxHeartbeats 1000000 in
theorem rTakeNumber_any (v : Value) (b : List UInt8) (s : Int) (w : World) (hv : BS w v b) :
    Calls Try.prog 73 #[v, .int .i64 s] w fun e w' => ∃ y, e = .returned (.tuple #[.int .u64 (numV b s : Int), y, .bool (tNum b s).isSome]) ∧ (∀ w0, BS w0 v b → BS w0 y (numR b s)) ∧ ∃ nd, w' = w.drewN nd := by
  have HM := Lib.hid (rmaySize_any s)
  rw [maySize_rSize] at HM
  have HCU := Lib.hid (rCut_any v b s w hv)
  have HVV := Lib.hid hv
  obtain ⟨p, cap, rfl, -, -, -⟩ := hv
  generalize b.length = m at *
  by_cases hs : rSize s = true
  · have h2 : ∃ k : Nat, 1 ≤ k ∧ k ≤ 8 ∧ s = (k : Int) := by
      unfold rSize at hs
      simp only [Bool.or_eq_true, beq_iff_eq] at hs
      exact ⟨s.toNat, by omega, by omega, by omega⟩
    obtain ⟨k, k1, k8, rfl⟩ := h2
    rw [hs] at HM
    cases hc : tCut b (k : Int) with
    | none =>
      have HT : Hid (tNum b (k : Int) = none) := Lib.hid (by unfold tNum; rw [if_pos hs, hc]; rfl)
      have HV : Hid (numV b (k : Int) = 0 ∧ numR b (k : Int) = []) := Lib.hid (by unfold numV numR; rw [HT.out]; exact ⟨rfl, rfl⟩)
      rw [HT.out, HV.out.1, HV.out.2, show (none : Option (Nat × List UInt8)).isSome = false from rfl]
      rw [hc, show (none : Option (List UInt8 × List UInt8)).isSome = false from rfl] at HCU
      clear HT HV hc hs
      go_enter Try.func73, Try.ntmps73
      go_wp2_with fail
      refine (HM.out _).mono ?_
      rintro e w1 ⟨rfl, rfl⟩
      go_wp2_with fail
      refine HCU.out.mono ?_
      rintro e w2 ⟨x, y, rfl, hxy, nd, rfl⟩
      obtain ⟨⟨px, cx, rfl, -, -, -⟩, ⟨py, cy, rfl, -, -, -⟩⟩ := hxy w HVV.out
      clear hxy
      go_wp2
      go_ret3
      exact ⟨_, rfl, fun _ _ => BS.nil _, _, rfl⟩
    | some q =>
      have HX : Hid (cutX b (k : Int) = q.1 ∧ cutY b (k : Int) = q.2) := Lib.hid (by unfold cutX cutY; rw [hc]; exact ⟨rfl, rfl⟩)
      have HT : Hid (tNum b (k : Int) = some (beVal q.1, q.2)) := Lib.hid (by unfold tNum; rw [if_pos hs, hc]; rfl)
      have HV : Hid (numV b (k : Int) = beVal q.1 ∧ numR b (k : Int) = q.2) := Lib.hid (by unfold numV numR; rw [HT.out]; exact ⟨rfl, rfl⟩)
      have hlen : q.1.length = k := by
        unfold tCut at hc
        split at hc
        · injection hc with hc
          subst hc
          simp only [List.length_take]; omega
        · cases hc
      rw [HT.out, HV.out.1, HV.out.2, show (some (beVal q.1, q.2) : Option (Nat × List UInt8)).isSome = true from rfl]
      rw [hc, HX.out.1, HX.out.2, show (some q : Option (List UInt8 × List UInt8)).isSome = true from rfl] at HCU
      clear HT HV HX hc hs
      obtain ⟨xl, yl⟩ := q
      have HL := Lib.hid hlen
      dsimp only at HL HCU ⊢
      clear hlen
      go_enter Try.func73, Try.ntmps73
      go_wp2_with fail
      refine (HM.out _).mono ?_
      rintro e w1 ⟨rfl, rfl⟩
      go_wp2_with fail
      refine HCU.out.mono ?_
      rintro e w2 ⟨x, y, rfl, hxy, nd0, rfl⟩
      have HYB := Lib.hid (fun w0 h0 => (hxy w0 h0).2)
      obtain ⟨hx, hy⟩ := hxy w HVV.out
      clear hxy
      obtain ⟨py, cy, rfl, -, -, -⟩ := hy
      obtain ⟨px, cx, rfl, gx1, gx2, hxc⟩ := hx
      have HXC := Lib.hid hxc
      clear hxc
      rw [HL.out] at gx1 ⊢
      generalize yl.length = ny at *
      go_wp2_with fail
      go_loopw [10, 11] (fun a i wr => (∃ nd, wr = w.drewN nd) ∧ ∃ (j A : Nat), j ≤ k ∧ i = .int .i64 (j : Int) ∧ a = .int .u64 (A : Int) ∧ A = beVal (xl.take j) * 256 ^ (k - j)) (fun _ i _ => k - (intOf i).toNat)
      case atStart => exact ⟨⟨nd0, rfl⟩, 0, 0, Nat.zero_le _, rfl, rfl, by simp [beVal]⟩
      case round =>
        obtain ⟨⟨nd, hnd⟩, j, A, hj, rfl, rfl, hA⟩ := hrel
        have HA := Lib.hid hA
        have HND := Lib.hid hnd
        clear hA hnd
        by_cases hlt : j < k
        · obtain ⟨c, hc⟩ : ∃ c, xl[j]? = some c := ⟨_, List.getElem?_eq_getElem (by have := HL.out; omega)⟩
          obtain ⟨g, o, rfl, hg, hcell⟩ := HXC.out (by intro h; rw [h] at hc; simp at hc)
          have hcell := hcell j c hc
          obtain ⟨s1, s2, s3⟩ := sum_step xl k j c k8 HL.out hc
          rw [← HA.out] at s2
          have HB := Lib.hid s2
          have HPW := Lib.hid (fun W => rpower_any (k - 1 - j) (by omega) W)
          have hP1 : 0 < 256 ^ (k - 1 - j) := Nat.pow_pos (by decide)
          generalize 256 ^ (k - 1 - j) = P at *
          generalize hAA : beVal (xl.take (j + 1)) * 256 ^ (k - (j + 1)) = A2 at *
          have HA2 := Lib.hid hAA
          have hcc := c.toNat_lt
          generalize c.toNat = cc at *
          have hz : (cc : Int) * (P : Int) = ((cc * P : Nat) : Int) := by simp
          generalize cc * P = Q at *
          have z0 : ((k - 1 - j : Nat) : Int) = (k : Int) - 1 - (j : Int) := by omega
          rw [z0] at HPW
          clear hAA hc
          go_wp2_with fail
          have hcell : wr.cell? ⟨g, o + j, none⟩ = some (.int .u8 (cc : Int)) := by rw [HND.out]; exact hcell
          have z1 : IntKind.i64.wrap ((k : Int) - 1) = (k : Int) - 1 := by rw [IntKind.wrap_i64]; omega
          have z2 : IntKind.i64.wrap ((k : Int) - 1 - (j : Int)) = (k : Int) - 1 - (j : Int) := by rw [IntKind.wrap_i64]; omega
          have z3 : IntKind.u64.wrap (cc : Int) = (cc : Int) := by rw [IntKind.wrap_u64]; omega
          have z4 : IntKind.u64.wrap (Q : Int) = (Q : Int) := by rw [IntKind.wrap_u64]; omega
          have z5 : (cc : Int) * (P : Int) = (Q : Int) := hz
          have z6 : IntKind.u64.wrap ((A : Int) + (Q : Int)) = ((A2 : Nat) : Int) := by rw [IntKind.wrap_u64]; omega
          go_quiet ((go_at_call 105; exact (HPW.out _).mono (fun _ _ h => ⟨h.1, _, h.2.symm⟩)))
          go_wp2
          go_roundw
          case rel => exact ⟨⟨_, by rw [HND.out, World.drewN_drewN]⟩, j + 1, A2, by omega, by go_num, by go_num, HA2.out.symm⟩
          case measure => simp [intOf]; omega
        · obtain rfl : j = k := by omega
          have HAF : Hid (A = beVal xl) := Lib.hid (by rw [HA.out, List.take_of_length_le (by have := HL.out; omega)]; simp)
          rw [HAF.out]
          go_wp2
          go_ret3
          exact ⟨.slice py ny cy, rfl, HYB.out, nd, HND.out⟩
  · have HT : Hid (tNum b s = none) := Lib.hid (by unfold tNum; rw [if_neg hs])
    have HV : Hid (numV b s = 0 ∧ numR b s = []) := Lib.hid (by unfold numV numR; rw [HT.out]; exact ⟨rfl, rfl⟩)
    rw [HT.out, HV.out.1, HV.out.2, show (none : Option (Nat × List UInt8)).isSome = false from rfl]
    rw [show rSize s = false from by simpa using hs] at HM
    clear HT HV hs
    go_enter Try.func73, Try.ntmps73
    go_wp2_with fail
    refine (HM.out _).mono ?_
    rintro e w1 ⟨rfl, rfl⟩
    go_wp2
    go_ret3
    exact ⟨_, rfl, fun _ _ => BS.nil _, 0, rfl⟩
end Go.Proofs.Ytolfekbhlfjniaa

set_option linter.unusedVariables false
set_option linter.unusedSimpArgs false
namespace Go.Proofs.Ytolfekbhlfjniaa
open Go.RowKit

theorem beVal_ofBe (l : List UInt8) : beVal l = Wire.ofBe l := by
  unfold beVal Wire.ofBe
  congr 1
  funext n b
  unfold Wire.bstep
  omega
/-- what is left of bytes behind a place -/
def stAt (b : List UInt8) (o : Nat) : Option (List UInt8) := if o ≤ b.length then some (b.drop o) else none
def vAt (b : List UInt8) (o k : Nat) : Nat := rNumV (stAt b o) (k : Int)
theorem stAt_zero (b : List UInt8) : stAt b 0 = some b := by unfold stAt; rw [if_pos (Nat.zero_le _)]; rfl
theorem stAt_num (b : List UInt8) (o k : Nat) (hk : k = 1 ∨ k = 2 ∨ k = 4 ∨ k = 8) : rNumS (stAt b o) (k : Int) = stAt b (o + k) := by
  have hs : rSize (k : Int) = true := by rcases hk with rfl | rfl | rfl | rfl <;> rfl
  unfold rNumS
  rw [if_pos hs]
  unfold stAt
  by_cases h : o ≤ b.length
  · rw [if_pos h]
    by_cases h2 : o + k ≤ b.length
    · rw [if_pos h2, (rTake_fit (l := b.drop o) (n := k) (by rw [List.length_drop]; omega)).2, List.drop_drop]
    · rw [if_neg h2]
      exact (rTake_bad (fun l e => by injection e with e; subst e; rw [List.length_drop]; omega)).2
  · rw [if_neg h, if_neg (by omega)]; rfl
theorem stAt_end (b : List UInt8) : stAt b 63 = some [] ↔ b.length = 63 := by
  unfold stAt
  by_cases h : 63 ≤ b.length
  · rw [if_pos h]
    simp only [Option.some.injEq, List.drop_eq_nil_iff]; omega
  · rw [if_neg h]
    constructor
    · intro h; cases h
    · intro h2; omega
theorem vAt_lt (b : List UInt8) (o k : Nat) : vAt b o k < 256 ^ k := rNumV_lt _ k
theorem vAt_num {b : List UInt8} {o : Nat} (k : Nat) (h : o ≤ b.length) : numV (b.drop o) (k : Int) = vAt b o k := by
  unfold vAt stAt
  rw [if_pos h, (rNum_t _ _).2]
theorem be_vAt {b : List UInt8} {o k : Nat} (hk : k = 1 ∨ k = 2 ∨ k = 4 ∨ k = 8) (h : o + k ≤ b.length) : Wire.be (vAt b o k) k = (b.drop o).take k := by
  have hs : rSize (k : Int) = true := by rcases hk with rfl | rfl | rfl | rfl <;> rfl
  have hl : ((b.drop o).take k).length = k := by rw [List.length_take, List.length_drop]; omega
  unfold vAt rNumV stAt
  rw [if_pos hs, if_pos (by omega)]
  unfold rBy
  rw [(rTake_fit (l := b.drop o) (n := k) (by rw [List.length_drop]; omega)).1]
  show Wire.be (beVal ((b.drop o).take k)) k = _
  have := Wire.be_ofBe ((b.drop o).take k)
  rwa [hl, ← beVal_ofBe] at this
theorem cut_step (b : List UInt8) (o k : Nat) : (b.drop o).take k ++ b.drop (o + k) = b.drop o := by
  rw [← List.drop_drop, List.take_append_drop]
def pOf (b : List UInt8) : Pst := ⟨vAt b 10 4, vAt b 0 8, vAt b 8 2, vAt b 14 1, wrap64 (vAt b 15 8), wrap64 (vAt b 23 8), wrap64 (vAt b 31 8), wrap64 (vAt b 39 8), wrap64 (vAt b 47 8), wrap64 (vAt b 55 8)⟩
def zeroP : Pst := ⟨0, 0, 0, 0, 0, 0, 0, 0, 0, 0⟩
def encH (p : Pst) : List UInt8 := ((Wire.be (u64 p.t) 8 ++ Wire.be (u64 p.s) 2) ++ Wire.be (u64 p.d) 4) ++ Wire.be (u64 p.k) 1
def encA (am : List Int) : List UInt8 := am.flatMap fun a => Wire.be (u64 a) 8
def encP (p : Pst) : List UInt8 := encH p ++ encA p.am
theorem u64_wrap (N : Nat) (h : N < 18446744073709551616) : u64 (wrap64 (N : Int)) = N := by unfold u64 wrap64; omega
theorem u64_of (N : Nat) (h : N < 18446744073709551616) : u64 (N : Int) = N := by unfold u64; omega
theorem encP_of {b : List UInt8} (h : b.length = 63) : encP (pOf b) = b := by
  have l := fun o k => vAt_lt b o k
  unfold encP encH encA Pst.am pOf
  simp only [List.flatMap_cons, List.flatMap_nil, List.append_nil]
  rw [u64_of _ (Nat.lt_of_lt_of_le (l 0 8) (by decide)), u64_of _ (Nat.lt_of_lt_of_le (l 8 2) (by decide)), u64_of _ (Nat.lt_of_lt_of_le (l 10 4) (by decide)), u64_of _ (Nat.lt_of_lt_of_le (l 14 1) (by decide))]
  rw [u64_wrap _ (Nat.lt_of_lt_of_le (l 15 8) (by decide)), u64_wrap _ (Nat.lt_of_lt_of_le (l 23 8) (by decide)), u64_wrap _ (Nat.lt_of_lt_of_le (l 31 8) (by decide)), u64_wrap _ (Nat.lt_of_lt_of_le (l 39 8) (by decide)), u64_wrap _ (Nat.lt_of_lt_of_le (l 47 8) (by decide)), u64_wrap _ (Nat.lt_of_lt_of_le (l 55 8) (by decide))]
  rw [be_vAt (by decide) (by omega), be_vAt (by decide) (by omega), be_vAt (by decide) (by omega), be_vAt (by decide) (by omega), be_vAt (by decide) (by omega), be_vAt (by decide) (by omega), be_vAt (by decide) (by omega), be_vAt (by decide) (by omega), be_vAt (by decide) (by omega), be_vAt (by decide) (by omega)]
  have e : b.drop 63 = [] := List.drop_of_length_le (by omega)
  have s9 := cut_step b 55 8
  rw [show 55 + 8 = 63 from rfl, e, List.append_nil] at s9
  simp only [List.append_assoc]
  rw [s9, cut_step b 47 8, cut_step b 39 8, cut_step b 31 8, cut_step b 23 8, cut_step b 15 8, cut_step b 14 1, cut_step b 10 4, cut_step b 8 2, cut_step b 0 8]
  rfl
end Go.Proofs.Ytolfekbhlfjniaa
