/- What a history's step works on: five variables and two rows. What a history's step writes: five variables and two rows. Contract: which status leads to which (status.Leads). Contract: a history's step that should not be (told's closure), first half. -/
import Derived.Test.YtadabjkhiaidcaaDsl9
import Derived.Test.YtadabjkhiaidcaaDsl1
import Derived.Test.YtadabjkhiaidcaaDsl8

section
set_option linter.unusedVariables false
set_option linter.unusedSimpArgs false
namespace Go.Proofs.Ytadabjkhiaidcaa
open Go.RowKit

/-- whole numbers as cells -/
def rowS (l : List Int) : Array Value := (l.map (Value.int .i64)).toArray
theorem rowS_get {l : List Int} {i : Nat} {z : Int} (h : l[i]? = some z) : (rowS l)[i]? = some (.int .i64 z) := by
  unfold rowS; rw [List.getElem?_toArray, List.getElem?_map, h]; rfl
theorem rowS_set (l : List Int) (i : Nat) (z : Int) : (rowS l).setIfInBounds i (.int .i64 z) = rowS (l.set i z) := by
  unfold rowS
  rw [List.setIfInBounds_toArray, List.map_set]
/-- the variables of told: until, now (a slice over nb), good, at, then (a slice over tb) -/
structure Tds (w : World) (au nb an ag aa tb ah : Nat) (n c2 : Nat) (u A : Int) (G : Bool) (now thn : List Int) (sp : List Value) : Prop where
  ru : w.heap[au]? = some (.cells #[.int .i64 u] 3 (0, 0))
  rn : w.heap[nb]? = some (.cells (rowS now) 34 (0, 0))
  ran : w.heap[an]? = some (.cells #[.slice (some ⟨nb, 0, none⟩) n n] 72 (0, 0))
  rg : w.heap[ag]? = some (.cells #[.bool G] 4 (0, 0))
  raa : w.heap[aa]? = some (.cells #[.int .i64 A] 3 (0, 0))
  rt : w.heap[tb]? = some (.cells (thn.map (Value.int .i64) ++ sp).toArray 34 (0, 0))
  rah : w.heap[ah]? = some (.cells #[.slice (some ⟨tb, 0, none⟩) n c2] 72 (0, 0))
  o1 : au < nb
  o2 : nb < an
  o3 : an < ag ∧ an < aa
  o4 : ag ≠ aa
  o5 : ag < tb ∧ aa < tb
  o6 : tb < ah
  ln : now.length = n
  lt : thn.length = n
theorem Tds.below {w w' : World} {au nb an ag aa tb ah n c2 : Nat} {u A : Int} {G : Bool} {now thn : List Int} {sp : List Value} (t : Tds w au nb an ag aa tb ah n c2 u A G now thn sp) (hb : Below w.heap.size w w') : Tds w' au nb an ag aa tb ah n c2 u A G now thn sp :=
  ⟨(hb.block _ (block_lt t.ru)).trans t.ru, (hb.block _ (block_lt t.rn)).trans t.rn, (hb.block _ (block_lt t.ran)).trans t.ran, (hb.block _ (block_lt t.rg)).trans t.rg, (hb.block _ (block_lt t.raa)).trans t.raa, (hb.block _ (block_lt t.rt)).trans t.rt, (hb.block _ (block_lt t.rah)).trans t.rah, t.o1, t.o2, t.o3, t.o4, t.o5, t.o6, t.ln, t.lt⟩
end Go.Proofs.Ytadabjkhiaidcaa
end

section
set_option linter.unusedVariables false
set_option linter.unusedSimpArgs false
namespace Go.Proofs.Ytadabjkhiaidcaa
open Go.RowKit

section
variable {w : World} {au nb an ag aa tb ah n c2 : Nat} {u A : Int} {G : Bool} {now thn : List Int} {sp : List Value}
theorem Tds.drew (t : Tds w au nb an ag aa tb ah n c2 u A G now thn sp) : Tds w.drew au nb an ag aa tb ah n c2 u A G now thn sp := t.below (Below.refl _ _).drew
theorem Tds.setG (t : Tds w au nb an ag aa tb ah n c2 u A G now thn sp) (q : Bool) : Tds (w.setCell ⟨ag, 0, none⟩ (.bool q)) au nb an ag aa tb ah n c2 u A q now thn sp := by
  obtain ⟨ru, rn, ran, rg, raa, rt, rah, o1, o2, o3, o4, o5, o6, ln, lt⟩ := t
  exact ⟨(heap_setCell_other _ _ _ _ (by dsimp only; omega)).trans ru, (heap_setCell_other _ _ _ _ (by dsimp only; omega)).trans rn, (heap_setCell_other _ _ _ _ (by dsimp only; omega)).trans ran, heap_setCell_same _ _ _ _ _ _ rg, (heap_setCell_other _ _ _ _ (by dsimp only; omega)).trans raa, (heap_setCell_other _ _ _ _ (by dsimp only; omega)).trans rt, (heap_setCell_other _ _ _ _ (by dsimp only; omega)).trans rah, o1, o2, o3, o4, o5, o6, ln, lt⟩
theorem Tds.setA (t : Tds w au nb an ag aa tb ah n c2 u A G now thn sp) (q : Int) : Tds (w.setCell ⟨aa, 0, none⟩ (.int .i64 q)) au nb an ag aa tb ah n c2 u q G now thn sp := by
  obtain ⟨ru, rn, ran, rg, raa, rt, rah, o1, o2, o3, o4, o5, o6, ln, lt⟩ := t
  exact ⟨(heap_setCell_other _ _ _ _ (by dsimp only; omega)).trans ru, (heap_setCell_other _ _ _ _ (by dsimp only; omega)).trans rn, (heap_setCell_other _ _ _ _ (by dsimp only; omega)).trans ran, (heap_setCell_other _ _ _ _ (by dsimp only; omega)).trans rg, heap_setCell_same _ _ _ _ _ _ raa, (heap_setCell_other _ _ _ _ (by dsimp only; omega)).trans rt, (heap_setCell_other _ _ _ _ (by dsimp only; omega)).trans rah, o1, o2, o3, o4, o5, o6, ln, lt⟩
theorem Tds.setN (t : Tds w au nb an ag aa tb ah n c2 u A G now thn sp) (i : Nat) (q : Int) : Tds (w.setCell ⟨nb, i, none⟩ (.int .i64 q)) au nb an ag aa tb ah n c2 u A G (now.set i q) thn sp := by
  obtain ⟨ru, rn, ran, rg, raa, rt, rah, o1, o2, o3, o4, o5, o6, ln, lt⟩ := t
  exact ⟨(heap_setCell_other _ _ _ _ (by dsimp only; omega)).trans ru, (heap_setCell_same _ _ _ _ _ _ rn).trans (by rw [rowS_set]), (heap_setCell_other _ _ _ _ (by dsimp only; omega)).trans ran, (heap_setCell_other _ _ _ _ (by dsimp only; omega)).trans rg, (heap_setCell_other _ _ _ _ (by dsimp only; omega)).trans raa, (heap_setCell_other _ _ _ _ (by dsimp only; omega)).trans rt, (heap_setCell_other _ _ _ _ (by dsimp only; omega)).trans rah, o1, o2, o3, o4, o5, o6, by rw [List.length_set]; exact ln, lt⟩
theorem Tds.setT (t : Tds w au nb an ag aa tb ah n c2 u A G now thn sp) (i : Nat) (hi : i < n) (q : Int) : Tds (w.setCell ⟨tb, i, none⟩ (.int .i64 q)) au nb an ag aa tb ah n c2 u A G now (thn.set i q) sp := by
  obtain ⟨ru, rn, ran, rg, raa, rt, rah, o1, o2, o3, o4, o5, o6, ln, lt⟩ := t
  exact ⟨(heap_setCell_other _ _ _ _ (by dsimp only; omega)).trans ru, (heap_setCell_other _ _ _ _ (by dsimp only; omega)).trans rn, (heap_setCell_other _ _ _ _ (by dsimp only; omega)).trans ran, (heap_setCell_other _ _ _ _ (by dsimp only; omega)).trans rg, (heap_setCell_other _ _ _ _ (by dsimp only; omega)).trans raa, (heap_setCell_same _ _ _ _ _ _ rt).trans (by
    rw [List.setIfInBounds_toArray, List.set_append_left _ _ (by rw [List.length_map]; omega), List.map_set]), (heap_setCell_other _ _ _ _ (by dsimp only; omega)).trans rah, o1, o2, o3, o4, o5, o6, ln, by rw [List.length_set]; exact lt⟩
end
end Go.Proofs.Ytadabjkhiaidcaa
end

section
set_option linter.unusedVariables false
set_option linter.unusedSimpArgs false
namespace Go.Proofs.Ytadabjkhiaidcaa
open Go.RowKit

theorem bits_one (a : Int) : Tkt.bitsI a = 996 ∨ Tkt.bitsI a = 10 ∨ Tkt.bitsI a = 20 ∨ Tkt.bitsI a = 66 ∨ Tkt.bitsI a = 18 ∨ Tkt.bitsI a = 0 := by
  unfold Tkt.bitsI
  repeat' split
  all_goals simp
set_option maxRecDepth 4000 in
set_option maxHeartbeats 4000000 in
theorem leads_any (a b : Int) (w : World) : Calls Try.prog 43 #[.int .i64 a, .int .i64 b] w fun e w' => e = .returned (.bool (Tkt.leadsB a b)) ∧ w = w' := by
  have HM := Lib.hid (statusMay_any b w)
  have HB := Lib.hid (bits_any a w)
  by_cases hs : Tkt.stB b = true
  · have hb : 1 ≤ b ∧ b ≤ 9 := by unfold Tkt.stB at hs; simpa using hs
    have hl : Tkt.leadsB a b = decide (Tkt.bitsI a / 2 ^ b.toNat % 2 = 1) := by unfold Tkt.leadsB; rw [hs, Bool.true_and]
    rw [hl]
    rw [hs] at HM
    have hv := bits_one a
    generalize Tkt.bitsI a = v at *
    clear hl hs
    have hb9 : b = 1 ∨ b = 2 ∨ b = 3 ∨ b = 4 ∨ b = 5 ∨ b = 6 ∨ b = 7 ∨ b = 8 ∨ b = 9 := by omega
    clear hb
    rcases hv with rfl | rfl | rfl | rfl | rfl | rfl <;> rcases hb9 with rfl | rfl | rfl | rfl | rfl | rfl | rfl | rfl | rfl <;>
      (go_enter Try.func43, Try.ntmps43
       go_wp2_with (first | (go_at_call 72; refine HM.out.mono ?_; rintro e w' ⟨rfl, rfl⟩) | (go_at_call 73; refine HB.out.mono ?_; rintro e w' ⟨rfl, rfl⟩))
       go_ret
       exact ⟨ret_bool (by decide), rfl⟩)
  · have hs' : Tkt.stB b = false := by simpa using hs
    have hl : Tkt.leadsB a b = false := by unfold Tkt.leadsB; rw [hs', Bool.false_and]
    rw [hl]
    rw [hs'] at HM
    clear hs hs' hl
    go_enter Try.func43, Try.ntmps43
    go_wp2_with (first | (go_at_call 72; refine HM.out.mono ?_; rintro e w' ⟨rfl, rfl⟩))
    go_ret
    exact ⟨rfl, rfl⟩
end Go.Proofs.Ytadabjkhiaidcaa
end

section
set_option linter.unusedVariables false
set_option linter.unusedSimpArgs false
namespace Go.Proofs.Ytadabjkhiaidcaa
open Go.RowKit

set_option maxRecDepth 4000 in
set_option maxHeartbeats 4000000 in
theorem told1_low (x : Evt) (w : World) (au nb an ag aa tb ah n c2 : Nat) (u A : Int) (G : Bool) (now thn : List Int) (sp : List Value) (t : Tds w au nb an ag aa tb ah n c2 u A G now thn sp) (hn : n ≤ 100000) (hc2 : n ≤ c2 ∧ c2 ≤ maxLen) (i : Int) (hwr : IntKind.i64.wrap (x.co - 1) = i) (h1 : i < 0 ∧ -9223372036854775808 ≤ i) :
    Calls Try.prog 103 #[.agg #[.int .i64 x.dy, .int .i64 x.co, .int .i64 x.fr, .int .i64 x.to], .pointer (some ⟨an, 0, none⟩), .pointer (some ⟨aa, 0, none⟩), .pointer (some ⟨ag, 0, none⟩), .pointer (some ⟨au, 0, none⟩), .pointer (some ⟨ah, 0, none⟩)] w fun e w' => e = .returned (.tuple #[]) ∧ Tds w' au nb an ag aa tb ah n c2 u A false now thn sp ∧ Below au w w' := by
  have LAU := Lib.hid (block_lt t.ru)
  have LAG : Hid (au ≤ ag) := Lib.hid (by have := t.o1; have := t.o2; have := t.o3; omega)
  have hb0 := (Below.refl w.heap.size w).alloc (Nat.le_refl _) (.cells #[.int .i64 x.dy, .int .i64 x.co, .int .i64 x.fr, .int .i64 x.to] 96 (0, 0))
  have HB0 := Lib.hid hb0
  have HT := Lib.hid (t.below hb0)
  have hrx := new_rowW w (.cells #[.int .i64 x.dy, .int .i64 x.co, .int .i64 x.fr, .int .i64 x.to] 96 (0, 0)) _ rfl
  have HDY := Lib.hid (fun W => tday_any x.dy W)
  have HLD := Lib.hid (fun W => leads_any x.fr x.to W)
  generalize hW : w.alloc (.cells #[.int .i64 x.dy, .int .i64 x.co, .int .i64 x.fr, .int .i64 x.to] 96 (0, 0)) = W at *
  have e0 : W.cell? ⟨w.heap.size, 0, none⟩ = some (.int .i64 x.dy) := cell_of_row _ _ 0 _ _ _ hrx
  have e1 : W.cell? ⟨w.heap.size, 1, none⟩ = some (.int .i64 x.co) := cell_of_row _ _ 1 _ _ _ hrx
  have e2 : W.cell? ⟨w.heap.size, 2, none⟩ = some (.int .i64 x.fr) := cell_of_row _ _ 2 _ _ _ hrx
  have e3 : W.cell? ⟨w.heap.size, 3, none⟩ = some (.int .i64 x.to) := cell_of_row _ _ 3 _ _ _ hrx
  have k1 : W.cell? ⟨an, 0, none⟩ = some (.slice (some ⟨nb, 0, none⟩) n n) := cell_of_row _ _ 0 _ _ _ HT.out.ran
  have k2 : W.cell? ⟨aa, 0, none⟩ = some (.int .i64 A) := cell_of_row _ _ 0 _ _ _ HT.out.raa
  have l0 := block_lt hrx
  have l1 := block_lt HT.out.ran
  have l2 := block_lt HT.out.raa
  have l3 := block_lt HT.out.rn
  have HRX := Lib.hid hrx
  obtain ⟨h1, h2⟩ := h1
  have d1 : decide (i < 0) = true := decide_eq_true (by omega)
  clear hb0 hrx t
  have hL := @Later.cell
  go_enter Try.func103, Try.ntmps103
  go_wp2_with fail
  refine wp_region_later (by kernel_rfl) (by kernel_rfl) ?_
  repeat (go_big_quiet_step (first | (go_at_call 100; with_reducible exact later_same (HDY.out _)) | (go_at_call 43; with_reducible exact later_same (HLD.out _))))
  refine wpQuiet_nil ?_
  rintro w2 ⟨u', rfl⟩
  have HT2 := Lib.hid (HT.out.below u'.prop)
  have HB2 := Lib.hid (HB0.out.trans (u'.prop.mono HB0.out.size))
  have HRX2 := Lib.hid ((u'.prop.block _ (block_lt HRX.out)).trans HRX.out)
  generalize u'.val = w3 at *
  clear e0 e1 e2 e3 k1 k2 hL l0 l1 l2 l3 
  have kg := fun j => cell_of_row w3 ag j _ _ _ HT2.out.rg
  have kf := fun j => frozen_of_row w3 ag j _ _ HT2.out.rg
  go_wp2
  refine bodyPost_ret (results_none rfl _ _ _) rfl ?_
  exact ⟨rfl, HT2.out.setG false, (HB2.out.mono (Nat.le_of_lt LAU.out)).setCell (LAG.out) _⟩

set_option maxRecDepth 4000 in
set_option maxHeartbeats 4000000 in
theorem told1_high (x : Evt) (w : World) (au nb an ag aa tb ah n c2 : Nat) (u A : Int) (G : Bool) (now thn : List Int) (sp : List Value) (t : Tds w au nb an ag aa tb ah n c2 u A G now thn sp) (hn : n ≤ 100000) (hc2 : n ≤ c2 ∧ c2 ≤ maxLen) (i : Int) (hwr : IntKind.i64.wrap (x.co - 1) = i) (h1 : (n : Int) ≤ i ∧ i ≤ 9223372036854775807) :
    Calls Try.prog 103 #[.agg #[.int .i64 x.dy, .int .i64 x.co, .int .i64 x.fr, .int .i64 x.to], .pointer (some ⟨an, 0, none⟩), .pointer (some ⟨aa, 0, none⟩), .pointer (some ⟨ag, 0, none⟩), .pointer (some ⟨au, 0, none⟩), .pointer (some ⟨ah, 0, none⟩)] w fun e w' => e = .returned (.tuple #[]) ∧ Tds w' au nb an ag aa tb ah n c2 u A false now thn sp ∧ Below au w w' := by
  have LAU := Lib.hid (block_lt t.ru)
  have LAG : Hid (au ≤ ag) := Lib.hid (by have := t.o1; have := t.o2; have := t.o3; omega)
  have hb0 := (Below.refl w.heap.size w).alloc (Nat.le_refl _) (.cells #[.int .i64 x.dy, .int .i64 x.co, .int .i64 x.fr, .int .i64 x.to] 96 (0, 0))
  have HB0 := Lib.hid hb0
  have HT := Lib.hid (t.below hb0)
  have hrx := new_rowW w (.cells #[.int .i64 x.dy, .int .i64 x.co, .int .i64 x.fr, .int .i64 x.to] 96 (0, 0)) _ rfl
  have HDY := Lib.hid (fun W => tday_any x.dy W)
  have HLD := Lib.hid (fun W => leads_any x.fr x.to W)
  generalize hW : w.alloc (.cells #[.int .i64 x.dy, .int .i64 x.co, .int .i64 x.fr, .int .i64 x.to] 96 (0, 0)) = W at *
  have e0 : W.cell? ⟨w.heap.size, 0, none⟩ = some (.int .i64 x.dy) := cell_of_row _ _ 0 _ _ _ hrx
  have e1 : W.cell? ⟨w.heap.size, 1, none⟩ = some (.int .i64 x.co) := cell_of_row _ _ 1 _ _ _ hrx
  have e2 : W.cell? ⟨w.heap.size, 2, none⟩ = some (.int .i64 x.fr) := cell_of_row _ _ 2 _ _ _ hrx
  have e3 : W.cell? ⟨w.heap.size, 3, none⟩ = some (.int .i64 x.to) := cell_of_row _ _ 3 _ _ _ hrx
  have k1 : W.cell? ⟨an, 0, none⟩ = some (.slice (some ⟨nb, 0, none⟩) n n) := cell_of_row _ _ 0 _ _ _ HT.out.ran
  have k2 : W.cell? ⟨aa, 0, none⟩ = some (.int .i64 A) := cell_of_row _ _ 0 _ _ _ HT.out.raa
  have l0 := block_lt hrx
  have l1 := block_lt HT.out.ran
  have l2 := block_lt HT.out.raa
  have l3 := block_lt HT.out.rn
  have HRX := Lib.hid hrx
  obtain ⟨h1, h2⟩ := h1
  have d1 : decide (i < 0) = false := decide_eq_false (by omega)
  have d2 : decide ((n : Int) ≤ i) = true := decide_eq_true (by omega)
  clear hb0 hrx t
  have hL := @Later.cell
  go_enter Try.func103, Try.ntmps103
  go_wp2_with fail
  refine wp_region_later (by kernel_rfl) (by kernel_rfl) ?_
  repeat (go_big_quiet_step (first | (go_at_call 100; with_reducible exact later_same (HDY.out _)) | (go_at_call 43; with_reducible exact later_same (HLD.out _))))
  refine wpQuiet_nil ?_
  rintro w2 ⟨u', rfl⟩
  have HT2 := Lib.hid (HT.out.below u'.prop)
  have HB2 := Lib.hid (HB0.out.trans (u'.prop.mono HB0.out.size))
  have HRX2 := Lib.hid ((u'.prop.block _ (block_lt HRX.out)).trans HRX.out)
  generalize u'.val = w3 at *
  clear e0 e1 e2 e3 k1 k2 hL l0 l1 l2 l3 
  have kg := fun j => cell_of_row w3 ag j _ _ _ HT2.out.rg
  have kf := fun j => frozen_of_row w3 ag j _ _ HT2.out.rg
  go_wp2
  refine bodyPost_ret (results_none rfl _ _ _) rfl ?_
  exact ⟨rfl, HT2.out.setG false, (HB2.out.mono (Nat.le_of_lt LAU.out)).setCell (LAG.out) _⟩

set_option maxRecDepth 4000 in
set_option maxHeartbeats 4000000 in
theorem told1_day (x : Evt) (w : World) (au nb an ag aa tb ah n c2 : Nat) (u A : Int) (G : Bool) (now thn : List Int) (sp : List Value) (t : Tds w au nb an ag aa tb ah n c2 u A G now thn sp) (hn : n ≤ 100000) (hc2 : n ≤ c2 ∧ c2 ≤ maxLen) (i : Int) (hwr : IntKind.i64.wrap (x.co - 1) = i) (h1 : 0 ≤ i ∧ i < n) (h3 : x.dy < A) :
    Calls Try.prog 103 #[.agg #[.int .i64 x.dy, .int .i64 x.co, .int .i64 x.fr, .int .i64 x.to], .pointer (some ⟨an, 0, none⟩), .pointer (some ⟨aa, 0, none⟩), .pointer (some ⟨ag, 0, none⟩), .pointer (some ⟨au, 0, none⟩), .pointer (some ⟨ah, 0, none⟩)] w fun e w' => e = .returned (.tuple #[]) ∧ Tds w' au nb an ag aa tb ah n c2 u A false now thn sp ∧ Below au w w' := by
  have LAU := Lib.hid (block_lt t.ru)
  have LAG : Hid (au ≤ ag) := Lib.hid (by have := t.o1; have := t.o2; have := t.o3; omega)
  have hb0 := (Below.refl w.heap.size w).alloc (Nat.le_refl _) (.cells #[.int .i64 x.dy, .int .i64 x.co, .int .i64 x.fr, .int .i64 x.to] 96 (0, 0))
  have HB0 := Lib.hid hb0
  have HT := Lib.hid (t.below hb0)
  have hrx := new_rowW w (.cells #[.int .i64 x.dy, .int .i64 x.co, .int .i64 x.fr, .int .i64 x.to] 96 (0, 0)) _ rfl
  have HDY := Lib.hid (fun W => tday_any x.dy W)
  have HLD := Lib.hid (fun W => leads_any x.fr x.to W)
  generalize hW : w.alloc (.cells #[.int .i64 x.dy, .int .i64 x.co, .int .i64 x.fr, .int .i64 x.to] 96 (0, 0)) = W at *
  have e0 : W.cell? ⟨w.heap.size, 0, none⟩ = some (.int .i64 x.dy) := cell_of_row _ _ 0 _ _ _ hrx
  have e1 : W.cell? ⟨w.heap.size, 1, none⟩ = some (.int .i64 x.co) := cell_of_row _ _ 1 _ _ _ hrx
  have e2 : W.cell? ⟨w.heap.size, 2, none⟩ = some (.int .i64 x.fr) := cell_of_row _ _ 2 _ _ _ hrx
  have e3 : W.cell? ⟨w.heap.size, 3, none⟩ = some (.int .i64 x.to) := cell_of_row _ _ 3 _ _ _ hrx
  have k1 : W.cell? ⟨an, 0, none⟩ = some (.slice (some ⟨nb, 0, none⟩) n n) := cell_of_row _ _ 0 _ _ _ HT.out.ran
  have k2 : W.cell? ⟨aa, 0, none⟩ = some (.int .i64 A) := cell_of_row _ _ 0 _ _ _ HT.out.raa
  have l0 := block_lt hrx
  have l1 := block_lt HT.out.ran
  have l2 := block_lt HT.out.raa
  have l3 := block_lt HT.out.rn
  have HRX := Lib.hid hrx
  obtain ⟨k, rfl⟩ : ∃ k : Nat, i = k := ⟨i.toNat, by omega⟩
  have hk : k < n := by omega
  have kn : W.cell? ⟨nb, k, none⟩ = some (.int .i64 (now.getD k 0)) := cell_of_row _ _ k _ _ _ HT.out.rn |>.trans (rowS_get (by rw [List.getD_eq_getElem?_getD, List.getElem?_eq_getElem (by have := HT.out.ln; omega)]; rfl))
  generalize now.getD k 0 = z at *
  have d1 : decide ((k : Int) < 0) = false := decide_eq_false (by omega)
  have d2 : decide (n ≤ k) = false := decide_eq_false (by omega)
  have d3 : decide (x.dy < A) = true := decide_eq_true (by omega)
  clear hb0 hrx t
  have hL := @Later.cell
  go_enter Try.func103, Try.ntmps103
  go_wp2_with fail
  refine wp_region_later (by kernel_rfl) (by kernel_rfl) ?_
  repeat (go_big_quiet_step (first | (go_at_call 100; with_reducible exact later_same (HDY.out _)) | (go_at_call 43; with_reducible exact later_same (HLD.out _))))
  refine wpQuiet_nil ?_
  rintro w2 ⟨u', rfl⟩
  have HT2 := Lib.hid (HT.out.below u'.prop)
  have HB2 := Lib.hid (HB0.out.trans (u'.prop.mono HB0.out.size))
  have HRX2 := Lib.hid ((u'.prop.block _ (block_lt HRX.out)).trans HRX.out)
  generalize u'.val = w3 at *
  clear e0 e1 e2 e3 k1 k2 hL l0 l1 l2 l3 
  have kg := fun j => cell_of_row w3 ag j _ _ _ HT2.out.rg
  have kf := fun j => frozen_of_row w3 ag j _ _ HT2.out.rg
  go_wp2
  refine bodyPost_ret (results_none rfl _ _ _) rfl ?_
  exact ⟨rfl, HT2.out.setG false, (HB2.out.mono (Nat.le_of_lt LAU.out)).setCell (LAG.out) _⟩
end Go.Proofs.Ytadabjkhiaidcaa
end
