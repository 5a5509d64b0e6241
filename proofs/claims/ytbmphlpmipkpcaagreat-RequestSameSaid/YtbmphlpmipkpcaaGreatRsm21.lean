/- Contract: a history's step that should not be (told's closure), second half. -/
import Derived.Test.YtbmphlpmipkpcaaGreatRsm20

set_option linter.unusedVariables false
set_option linter.unusedSimpArgs false
namespace Go.Proofs.YtbmphlpmipkpcaaGreat
open Go.RowKit

set_option maxRecDepth 4000 in
set_option maxHeartbeats 4000000 in
theorem told1_max (x : Evt) (w : World) (au nb an ag aa tb ah n c2 : Nat) (u A : Int) (G : Bool) (now thn : List Int) (sp : List Value) (t : Tds w au nb an ag aa tb ah n c2 u A G now thn sp) (hn : n ≤ 100000) (hc2 : n ≤ c2 ∧ c2 ≤ maxLen) (i : Int) (hwr : IntKind.i64.wrap (x.co - 1) = i) (h1 : 0 ≤ i ∧ i < n) (h3 : ¬ x.dy < A) (hd : Tkt.dayB x.dy = false) :
    Calls Tryz.prog 207 #[.agg #[.int .i64 x.dy, .int .i64 x.co, .int .i64 x.fr, .int .i64 x.to], .pointer (some ⟨an, 0, none⟩), .pointer (some ⟨aa, 0, none⟩), .pointer (some ⟨ag, 0, none⟩), .pointer (some ⟨au, 0, none⟩), .pointer (some ⟨ah, 0, none⟩)] w fun e w' => e = .returned (.tuple #[]) ∧ Tds w' au nb an ag aa tb ah n c2 u A false now thn sp ∧ Below au w w' := by
  have LAU := Lib.hid (block_lt t.ru)
  have LAG : Hid (au ≤ ag) := Lib.hid (by have := t.o1; have := t.o2; have := t.o3; omega)
  have hb0 := (Below.refl w.heap.size w).alloc (Nat.le_refl _) (.cells #[.int .i64 x.dy, .int .i64 x.co, .int .i64 x.fr, .int .i64 x.to] 187 (0, 0))
  have HB0 := Lib.hid hb0
  have HT := Lib.hid (t.below hb0)
  have hrx := new_rowW w (.cells #[.int .i64 x.dy, .int .i64 x.co, .int .i64 x.fr, .int .i64 x.to] 187 (0, 0)) _ rfl
  have HDY := Lib.hid (fun W => hd ▸ tday_any x.dy W)
  have HLD := Lib.hid (fun W => leads_any x.fr x.to W)
  generalize hW : w.alloc (.cells #[.int .i64 x.dy, .int .i64 x.co, .int .i64 x.fr, .int .i64 x.to] 187 (0, 0)) = W at *
  have e0 : W.cell? ⟨w.heap.size, 0, none⟩ = some (.int .i64 x.dy) := cell_of_row _ _ 0 _ _ _ hrx
  have e1 : W.cell? ⟨w.heap.size, 1, none⟩ = some (.int .i64 x.co) := cell_of_row _ _ 1 _ _ _ hrx
  have e2 : W.cell? ⟨w.heap.size, 2, none⟩ = some (.int .i64 x.fr) := cell_of_row _ _ 2 _ _ _ hrx
  have e3 : W.cell? ⟨w.heap.size, 3, none⟩ = some (.int .i64 x.to) := cell_of_row _ _ 3 _ _ _ hrx
  have k1 : W.cell? ⟨an, 0, none⟩ = some (.slice (some ⟨nb, 0, none⟩) n n) := cell_of_row _ _ 0 _ _ _ HT.out.ran
  have k2 : W.cell? ⟨aa, 0, none⟩ = some (.int .i64 A) := cell_of_row _ _ 0 _ _ _ HT.out.raa
  have l0 := block_lt hrx
  have l1 := block_lt HT.out.ran
  have l2 := block_lt HT.out.raa
  have l3 := block_lt HT.out.rn
  have HRX := Lib.hid hrx
  obtain ⟨k, rfl⟩ : ∃ k : Nat, i = k := ⟨i.toNat, by omega⟩
  have hk : k < n := by omega
  have kn : W.cell? ⟨nb, k, none⟩ = some (.int .i64 (now.getD k 0)) := cell_of_row _ _ k _ _ _ HT.out.rn |>.trans (rowS_get (by rw [List.getD_eq_getElem?_getD, List.getElem?_eq_getElem (by have := HT.out.ln; omega)]; rfl))
  generalize now.getD k 0 = z at *
  have d1 : decide ((k : Int) < 0) = false := decide_eq_false (by omega)
  have d2 : decide (n ≤ k) = false := decide_eq_false (by omega)
  have d3 : decide (x.dy < A) = false := decide_eq_false (by omega)
  clear hb0 hrx t
  have hL := @Later.cell
  go_enter Tryz.func207, Tryz.ntmps207
  go_wp2_with fail
  refine wp_region_later (by kernel_rfl) (by kernel_rfl) ?_
  repeat (go_big_quiet_step (first | (go_at_call 201; with_reducible exact later_same (HDY.out _)) | (go_at_call 208; with_reducible exact later_same (HLD.out _))))
  refine wpQuiet_nil ?_
  rintro w2 ⟨u', rfl⟩
  have HT2 := Lib.hid (HT.out.below u'.prop)
  have HB2 := Lib.hid (HB0.out.trans (u'.prop.mono HB0.out.size))
  have HRX2 := Lib.hid ((u'.prop.block _ (block_lt HRX.out)).trans HRX.out)
  generalize u'.val = w3 at *
  clear e0 e1 e2 e3 k1 k2 hL l0 l1 l2 l3 
  have kg := fun j => cell_of_row w3 ag j _ _ _ HT2.out.rg
  have kf := fun j => frozen_of_row w3 ag j _ _ HT2.out.rg
  go_wp2
  refine bodyPost_ret (results_none rfl _ _ _) rfl ?_
  exact ⟨rfl, HT2.out.setG false, (HB2.out.mono (Nat.le_of_lt LAU.out)).setCell (LAG.out) _⟩

set_option maxRecDepth 4000 in
set_option maxHeartbeats 4000000 in
theorem told1_from (x : Evt) (w : World) (au nb an ag aa tb ah n c2 : Nat) (u A : Int) (G : Bool) (now thn : List Int) (sp : List Value) (t : Tds w au nb an ag aa tb ah n c2 u A G now thn sp) (hn : n ≤ 100000) (hc2 : n ≤ c2 ∧ c2 ≤ maxLen) (i : Int) (hwr : IntKind.i64.wrap (x.co - 1) = i) (h1 : 0 ≤ i ∧ i < n) (h3 : ¬ x.dy < A) (hd : Tkt.dayB x.dy = true) (hf : x.fr ≠ now.getD i.toNat 0) :
    Calls Tryz.prog 207 #[.agg #[.int .i64 x.dy, .int .i64 x.co, .int .i64 x.fr, .int .i64 x.to], .pointer (some ⟨an, 0, none⟩), .pointer (some ⟨aa, 0, none⟩), .pointer (some ⟨ag, 0, none⟩), .pointer (some ⟨au, 0, none⟩), .pointer (some ⟨ah, 0, none⟩)] w fun e w' => e = .returned (.tuple #[]) ∧ Tds w' au nb an ag aa tb ah n c2 u A false now thn sp ∧ Below au w w' := by
  have LAU := Lib.hid (block_lt t.ru)
  have LAG : Hid (au ≤ ag) := Lib.hid (by have := t.o1; have := t.o2; have := t.o3; omega)
  have hb0 := (Below.refl w.heap.size w).alloc (Nat.le_refl _) (.cells #[.int .i64 x.dy, .int .i64 x.co, .int .i64 x.fr, .int .i64 x.to] 187 (0, 0))
  have HB0 := Lib.hid hb0
  have HT := Lib.hid (t.below hb0)
  have hrx := new_rowW w (.cells #[.int .i64 x.dy, .int .i64 x.co, .int .i64 x.fr, .int .i64 x.to] 187 (0, 0)) _ rfl
  have HDY := Lib.hid (fun W => hd ▸ tday_any x.dy W)
  have HLD := Lib.hid (fun W => leads_any x.fr x.to W)
  generalize hW : w.alloc (.cells #[.int .i64 x.dy, .int .i64 x.co, .int .i64 x.fr, .int .i64 x.to] 187 (0, 0)) = W at *
  have e0 : W.cell? ⟨w.heap.size, 0, none⟩ = some (.int .i64 x.dy) := cell_of_row _ _ 0 _ _ _ hrx
  have e1 : W.cell? ⟨w.heap.size, 1, none⟩ = some (.int .i64 x.co) := cell_of_row _ _ 1 _ _ _ hrx
  have e2 : W.cell? ⟨w.heap.size, 2, none⟩ = some (.int .i64 x.fr) := cell_of_row _ _ 2 _ _ _ hrx
  have e3 : W.cell? ⟨w.heap.size, 3, none⟩ = some (.int .i64 x.to) := cell_of_row _ _ 3 _ _ _ hrx
  have k1 : W.cell? ⟨an, 0, none⟩ = some (.slice (some ⟨nb, 0, none⟩) n n) := cell_of_row _ _ 0 _ _ _ HT.out.ran
  have k2 : W.cell? ⟨aa, 0, none⟩ = some (.int .i64 A) := cell_of_row _ _ 0 _ _ _ HT.out.raa
  have l0 := block_lt hrx
  have l1 := block_lt HT.out.ran
  have l2 := block_lt HT.out.raa
  have l3 := block_lt HT.out.rn
  have HRX := Lib.hid hrx
  obtain ⟨k, rfl⟩ : ∃ k : Nat, i = k := ⟨i.toNat, by omega⟩
  have hk : k < n := by omega
  have kn : W.cell? ⟨nb, k, none⟩ = some (.int .i64 (now.getD k 0)) := cell_of_row _ _ k _ _ _ HT.out.rn |>.trans (rowS_get (by rw [List.getD_eq_getElem?_getD, List.getElem?_eq_getElem (by have := HT.out.ln; omega)]; rfl))
  rw [Int.toNat_natCast] at hf
  generalize now.getD k 0 = z at *
  have d1 : decide ((k : Int) < 0) = false := decide_eq_false (by omega)
  have d2 : decide (n ≤ k) = false := decide_eq_false (by omega)
  have d3 : decide (x.dy < A) = false := decide_eq_false (by omega)
  have d4 : (x.fr != z) = true := by simp [hf]
  clear hf
  clear hb0 hrx t
  have hL := @Later.cell
  go_enter Tryz.func207, Tryz.ntmps207
  go_wp2_with fail
  refine wp_region_later (by kernel_rfl) (by kernel_rfl) ?_
  repeat (go_big_quiet_step (first | (go_at_call 201; with_reducible exact later_same (HDY.out _)) | (go_at_call 208; with_reducible exact later_same (HLD.out _))))
  refine wpQuiet_nil ?_
  rintro w2 ⟨u', rfl⟩
  have HT2 := Lib.hid (HT.out.below u'.prop)
  have HB2 := Lib.hid (HB0.out.trans (u'.prop.mono HB0.out.size))
  have HRX2 := Lib.hid ((u'.prop.block _ (block_lt HRX.out)).trans HRX.out)
  generalize u'.val = w3 at *
  clear e0 e1 e2 e3 k1 k2 hL l0 l1 l2 l3 
  have kg := fun j => cell_of_row w3 ag j _ _ _ HT2.out.rg
  have kf := fun j => frozen_of_row w3 ag j _ _ HT2.out.rg
  go_wp2
  refine bodyPost_ret (results_none rfl _ _ _) rfl ?_
  exact ⟨rfl, HT2.out.setG false, (HB2.out.mono (Nat.le_of_lt LAU.out)).setCell (LAG.out) _⟩

set_option maxRecDepth 4000 in
set_option maxHeartbeats 4000000 in
theorem told1_leads (x : Evt) (w : World) (au nb an ag aa tb ah n c2 : Nat) (u A : Int) (G : Bool) (now thn : List Int) (sp : List Value) (t : Tds w au nb an ag aa tb ah n c2 u A G now thn sp) (hn : n ≤ 100000) (hc2 : n ≤ c2 ∧ c2 ≤ maxLen) (i : Int) (hwr : IntKind.i64.wrap (x.co - 1) = i) (h1 : 0 ≤ i ∧ i < n) (h3 : ¬ x.dy < A) (hd : Tkt.dayB x.dy = true) (hf : x.fr = now.getD i.toNat 0) (hl : Tkt.leadsB x.fr x.to = false) :
    Calls Tryz.prog 207 #[.agg #[.int .i64 x.dy, .int .i64 x.co, .int .i64 x.fr, .int .i64 x.to], .pointer (some ⟨an, 0, none⟩), .pointer (some ⟨aa, 0, none⟩), .pointer (some ⟨ag, 0, none⟩), .pointer (some ⟨au, 0, none⟩), .pointer (some ⟨ah, 0, none⟩)] w fun e w' => e = .returned (.tuple #[]) ∧ Tds w' au nb an ag aa tb ah n c2 u A false now thn sp ∧ Below au w w' := by
  have LAU := Lib.hid (block_lt t.ru)
  have LAG : Hid (au ≤ ag) := Lib.hid (by have := t.o1; have := t.o2; have := t.o3; omega)
  have hb0 := (Below.refl w.heap.size w).alloc (Nat.le_refl _) (.cells #[.int .i64 x.dy, .int .i64 x.co, .int .i64 x.fr, .int .i64 x.to] 187 (0, 0))
  have HB0 := Lib.hid hb0
  have HT := Lib.hid (t.below hb0)
  have hrx := new_rowW w (.cells #[.int .i64 x.dy, .int .i64 x.co, .int .i64 x.fr, .int .i64 x.to] 187 (0, 0)) _ rfl
  have HDY := Lib.hid (fun W => hd ▸ tday_any x.dy W)
  have HLD := Lib.hid (fun W => hl ▸ leads_any x.fr x.to W)
  generalize hW : w.alloc (.cells #[.int .i64 x.dy, .int .i64 x.co, .int .i64 x.fr, .int .i64 x.to] 187 (0, 0)) = W at *
  have e0 : W.cell? ⟨w.heap.size, 0, none⟩ = some (.int .i64 x.dy) := cell_of_row _ _ 0 _ _ _ hrx
  have e1 : W.cell? ⟨w.heap.size, 1, none⟩ = some (.int .i64 x.co) := cell_of_row _ _ 1 _ _ _ hrx
  have e2 : W.cell? ⟨w.heap.size, 2, none⟩ = some (.int .i64 x.fr) := cell_of_row _ _ 2 _ _ _ hrx
  have e3 : W.cell? ⟨w.heap.size, 3, none⟩ = some (.int .i64 x.to) := cell_of_row _ _ 3 _ _ _ hrx
  have k1 : W.cell? ⟨an, 0, none⟩ = some (.slice (some ⟨nb, 0, none⟩) n n) := cell_of_row _ _ 0 _ _ _ HT.out.ran
  have k2 : W.cell? ⟨aa, 0, none⟩ = some (.int .i64 A) := cell_of_row _ _ 0 _ _ _ HT.out.raa
  have l0 := block_lt hrx
  have l1 := block_lt HT.out.ran
  have l2 := block_lt HT.out.raa
  have l3 := block_lt HT.out.rn
  have HRX := Lib.hid hrx
  obtain ⟨k, rfl⟩ : ∃ k : Nat, i = k := ⟨i.toNat, by omega⟩
  have hk : k < n := by omega
  have kn : W.cell? ⟨nb, k, none⟩ = some (.int .i64 (now.getD k 0)) := cell_of_row _ _ k _ _ _ HT.out.rn |>.trans (rowS_get (by rw [List.getD_eq_getElem?_getD, List.getElem?_eq_getElem (by have := HT.out.ln; omega)]; rfl))
  rw [Int.toNat_natCast] at hf
  generalize now.getD k 0 = z at *
  have d1 : decide ((k : Int) < 0) = false := decide_eq_false (by omega)
  have d2 : decide (n ≤ k) = false := decide_eq_false (by omega)
  have d3 : decide (x.dy < A) = false := decide_eq_false (by omega)
  subst hf
  clear hb0 hrx t
  have hL := @Later.cell
  go_enter Tryz.func207, Tryz.ntmps207
  go_wp2_with fail
  refine wp_region_later (by kernel_rfl) (by kernel_rfl) ?_
  repeat (go_big_quiet_step (first | (go_at_call 201; with_reducible exact later_same (HDY.out _)) | (go_at_call 208; with_reducible exact later_same (HLD.out _))))
  refine wpQuiet_nil ?_
  rintro w2 ⟨u', rfl⟩
  have HT2 := Lib.hid (HT.out.below u'.prop)
  have HB2 := Lib.hid (HB0.out.trans (u'.prop.mono HB0.out.size))
  have HRX2 := Lib.hid ((u'.prop.block _ (block_lt HRX.out)).trans HRX.out)
  generalize u'.val = w3 at *
  clear e0 e1 e2 e3 k1 k2 hL l0 l1 l2 l3 
  have kg := fun j => cell_of_row w3 ag j _ _ _ HT2.out.rg
  have kf := fun j => frozen_of_row w3 ag j _ _ HT2.out.rg
  go_wp2
  refine bodyPost_ret (results_none rfl _ _ _) rfl ?_
  exact ⟨rfl, HT2.out.setG false, (HB2.out.mono (Nat.le_of_lt LAU.out)).setCell (LAG.out) _⟩
end Go.Proofs.YtbmphlpmipkpcaaGreat
