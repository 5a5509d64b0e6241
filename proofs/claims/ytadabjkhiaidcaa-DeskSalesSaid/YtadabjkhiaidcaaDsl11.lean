/- Contract: a history's step that should not be (told's closure), second half. Contract: a history's step that should be (told's closure). -/
import Derived.Test.YtadabjkhiaidcaaDsl10

section
set_option linter.unusedVariables false
set_option linter.unusedSimpArgs false
namespace Go.Proofs.Ytadabjkhiaidcaa
open Go.RowKit

set_option maxRecDepth 4000 in
set_option maxHeartbeats 4000000 in
theorem told1_max (x : Evt) (w : World) (au nb an ag aa tb ah n c2 : Nat) (u A : Int) (G : Bool) (now thn : List Int) (sp : List Value) (t : Tds w au nb an ag aa tb ah n c2 u A G now thn sp) (hn : n ≤ 100000) (hc2 : n ≤ c2 ∧ c2 ≤ maxLen) (i : Int) (hwr : IntKind.i64.wrap (x.co - 1) = i) (h1 : 0 ≤ i ∧ i < n) (h3 : ¬ x.dy < A) (hd : Tkt.dayB x.dy = false) :
    Calls Try.prog 103 #[.agg #[.int .i64 x.dy, .int .i64 x.co, .int .i64 x.fr, .int .i64 x.to], .pointer (some ⟨an, 0, none⟩), .pointer (some ⟨aa, 0, none⟩), .pointer (some ⟨ag, 0, none⟩), .pointer (some ⟨au, 0, none⟩), .pointer (some ⟨ah, 0, none⟩)] w fun e w' => e = .returned (.tuple #[]) ∧ Tds w' au nb an ag aa tb ah n c2 u A false now thn sp ∧ Below au w w' := by
  have LAU := Lib.hid (block_lt t.ru)
  have LAG : Hid (au ≤ ag) := Lib.hid (by have := t.o1; have := t.o2; have := t.o3; omega)
  have hb0 := (Below.refl w.heap.size w).alloc (Nat.le_refl _) (.cells #[.int .i64 x.dy, .int .i64 x.co, .int .i64 x.fr, .int .i64 x.to] 96 (0, 0))
  have HB0 := Lib.hid hb0
  have HT := Lib.hid (t.below hb0)
  have hrx := new_rowW w (.cells #[.int .i64 x.dy, .int .i64 x.co, .int .i64 x.fr, .int .i64 x.to] 96 (0, 0)) _ rfl
  have HDY := Lib.hid (fun W => hd ▸ tday_any x.dy W)
  have HLD := Lib.hid (fun W => leads_any x.fr x.to W)
  generalize hW : w.alloc (.cells #[.int .i64 x.dy, .int .i64 x.co, .int .i64 x.fr, .int .i64 x.to] 96 (0, 0)) = W at *
  have e0 : W.cell? ⟨w.heap.size, 0, none⟩ = some (.int .i64 x.dy) := cell_of_row _ _ 0 _ _ _ hrx
  have e1 : W.cell? ⟨w.heap.size, 1, none⟩ = some (.int .i64 x.co) := cell_of_row _ _ 1 _ _ _ hrx
  have e2 : W.cell? ⟨w.heap.size, 2, none⟩ = some (.int .i64 x.fr) := cell_of_row _ _ 2 _ _ _ hrx
  have e3 : W.cell? ⟨w.heap.size, 3, none⟩ = some (.int .i64 x.to) := cell_of_row _ _ 3 _ _ _ hrx
  have k1 : W.cell? ⟨an, 0, none⟩ = some (.slice (some ⟨nb, 0, none⟩) n n) := cell_of_row _ _ 0 _ _ _ HT.out.ran
  have k2 : W.cell? ⟨aa, 0, none⟩ = some (.int .i64 A) := cell_of_row _ _ 0 _ _ _ HT.out.raa
  have l0 := block_lt hrx
  have l1 := block_lt HT.out.ran
  have l2 := block_lt HT.out.raa
  have l3 := block_lt HT.out.rn
  have HRX := Lib.hid hrx
  obtain ⟨k, rfl⟩ : ∃ k : Nat, i = k := ⟨i.toNat, by omega⟩
  have hk : k < n := by omega
  have kn : W.cell? ⟨nb, k, none⟩ = some (.int .i64 (now.getD k 0)) := cell_of_row _ _ k _ _ _ HT.out.rn |>.trans (rowS_get (by rw [List.getD_eq_getElem?_getD, List.getElem?_eq_getElem (by have := HT.out.ln; omega)]; rfl))
  generalize now.getD k 0 = z at *
  have d1 : decide ((k : Int) < 0) = false := decide_eq_false (by omega)
  have d2 : decide (n ≤ k) = false := decide_eq_false (by omega)
  have d3 : decide (x.dy < A) = false := decide_eq_false (by omega)
  clear hb0 hrx t
  have hL := @Later.cell
  go_enter Try.func103, Try.ntmps103
  go_wp2_with fail
  refine wp_region_later (by kernel_rfl) (by kernel_rfl) ?_
  repeat (go_big_quiet_step (first | (go_at_call 100; with_reducible exact later_same (HDY.out _)) | (go_at_call 43; with_reducible exact later_same (HLD.out _))))
  refine wpQuiet_nil ?_
  rintro w2 ⟨u', rfl⟩
  have HT2 := Lib.hid (HT.out.below u'.prop)
  have HB2 := Lib.hid (HB0.out.trans (u'.prop.mono HB0.out.size))
  have HRX2 := Lib.hid ((u'.prop.block _ (block_lt HRX.out)).trans HRX.out)
  generalize u'.val = w3 at *
  clear e0 e1 e2 e3 k1 k2 hL l0 l1 l2 l3 
  have kg := fun j => cell_of_row w3 ag j _ _ _ HT2.out.rg
  have kf := fun j => frozen_of_row w3 ag j _ _ HT2.out.rg
  go_wp2
  refine bodyPost_ret (results_none rfl _ _ _) rfl ?_
  exact ⟨rfl, HT2.out.setG false, (HB2.out.mono (Nat.le_of_lt LAU.out)).setCell (LAG.out) _⟩

set_option maxRecDepth 4000 in
set_option maxHeartbeats 4000000 in
theorem told1_from (x : Evt) (w : World) (au nb an ag aa tb ah n c2 : Nat) (u A : Int) (G : Bool) (now thn : List Int) (sp : List Value) (t : Tds w au nb an ag aa tb ah n c2 u A G now thn sp) (hn : n ≤ 100000) (hc2 : n ≤ c2 ∧ c2 ≤ maxLen) (i : Int) (hwr : IntKind.i64.wrap (x.co - 1) = i) (h1 : 0 ≤ i ∧ i < n) (h3 : ¬ x.dy < A) (hd : Tkt.dayB x.dy = true) (hf : x.fr ≠ now.getD i.toNat 0) :
    Calls Try.prog 103 #[.agg #[.int .i64 x.dy, .int .i64 x.co, .int .i64 x.fr, .int .i64 x.to], .pointer (some ⟨an, 0, none⟩), .pointer (some ⟨aa, 0, none⟩), .pointer (some ⟨ag, 0, none⟩), .pointer (some ⟨au, 0, none⟩), .pointer (some ⟨ah, 0, none⟩)] w fun e w' => e = .returned (.tuple #[]) ∧ Tds w' au nb an ag aa tb ah n c2 u A false now thn sp ∧ Below au w w' := by
  have LAU := Lib.hid (block_lt t.ru)
  have LAG : Hid (au ≤ ag) := Lib.hid (by have := t.o1; have := t.o2; have := t.o3; omega)
  have hb0 := (Below.refl w.heap.size w).alloc (Nat.le_refl _) (.cells #[.int .i64 x.dy, .int .i64 x.co, .int .i64 x.fr, .int .i64 x.to] 96 (0, 0))
  have HB0 := Lib.hid hb0
  have HT := Lib.hid (t.below hb0)
  have hrx := new_rowW w (.cells #[.int .i64 x.dy, .int .i64 x.co, .int .i64 x.fr, .int .i64 x.to] 96 (0, 0)) _ rfl
  have HDY := Lib.hid (fun W => hd ▸ tday_any x.dy W)
  have HLD := Lib.hid (fun W => leads_any x.fr x.to W)
  generalize hW : w.alloc (.cells #[.int .i64 x.dy, .int .i64 x.co, .int .i64 x.fr, .int .i64 x.to] 96 (0, 0)) = W at *
  have e0 : W.cell? ⟨w.heap.size, 0, none⟩ = some (.int .i64 x.dy) := cell_of_row _ _ 0 _ _ _ hrx
  have e1 : W.cell? ⟨w.heap.size, 1, none⟩ = some (.int .i64 x.co) := cell_of_row _ _ 1 _ _ _ hrx
  have e2 : W.cell? ⟨w.heap.size, 2, none⟩ = some (.int .i64 x.fr) := cell_of_row _ _ 2 _ _ _ hrx
  have e3 : W.cell? ⟨w.heap.size, 3, none⟩ = some (.int .i64 x.to) := cell_of_row _ _ 3 _ _ _ hrx
  have k1 : W.cell? ⟨an, 0, none⟩ = some (.slice (some ⟨nb, 0, none⟩) n n) := cell_of_row _ _ 0 _ _ _ HT.out.ran
  have k2 : W.cell? ⟨aa, 0, none⟩ = some (.int .i64 A) := cell_of_row _ _ 0 _ _ _ HT.out.raa
  have l0 := block_lt hrx
  have l1 := block_lt HT.out.ran
  have l2 := block_lt HT.out.raa
  have l3 := block_lt HT.out.rn
  have HRX := Lib.hid hrx
  obtain ⟨k, rfl⟩ : ∃ k : Nat, i = k := ⟨i.toNat, by omega⟩
  have hk : k < n := by omega
  have kn : W.cell? ⟨nb, k, none⟩ = some (.int .i64 (now.getD k 0)) := cell_of_row _ _ k _ _ _ HT.out.rn |>.trans (rowS_get (by rw [List.getD_eq_getElem?_getD, List.getElem?_eq_getElem (by have := HT.out.ln; omega)]; rfl))
  rw [Int.toNat_natCast] at hf
  generalize now.getD k 0 = z at *
  have d1 : decide ((k : Int) < 0) = false := decide_eq_false (by omega)
  have d2 : decide (n ≤ k) = false := decide_eq_false (by omega)
  have d3 : decide (x.dy < A) = false := decide_eq_false (by omega)
  have d4 : (x.fr != z) = true := by simp [hf]
  clear hf
  clear hb0 hrx t
  have hL := @Later.cell
  go_enter Try.func103, Try.ntmps103
  go_wp2_with fail
  refine wp_region_later (by kernel_rfl) (by kernel_rfl) ?_
  repeat (go_big_quiet_step (first | (go_at_call 100; with_reducible exact later_same (HDY.out _)) | (go_at_call 43; with_reducible exact later_same (HLD.out _))))
  refine wpQuiet_nil ?_
  rintro w2 ⟨u', rfl⟩
  have HT2 := Lib.hid (HT.out.below u'.prop)
  have HB2 := Lib.hid (HB0.out.trans (u'.prop.mono HB0.out.size))
  have HRX2 := Lib.hid ((u'.prop.block _ (block_lt HRX.out)).trans HRX.out)
  generalize u'.val = w3 at *
  clear e0 e1 e2 e3 k1 k2 hL l0 l1 l2 l3 
  have kg := fun j => cell_of_row w3 ag j _ _ _ HT2.out.rg
  have kf := fun j => frozen_of_row w3 ag j _ _ HT2.out.rg
  go_wp2
  refine bodyPost_ret (results_none rfl _ _ _) rfl ?_
  exact ⟨rfl, HT2.out.setG false, (HB2.out.mono (Nat.le_of_lt LAU.out)).setCell (LAG.out) _⟩

set_option maxRecDepth 4000 in
set_option maxHeartbeats 4000000 in
theorem told1_leads (x : Evt) (w : World) (au nb an ag aa tb ah n c2 : Nat) (u A : Int) (G : Bool) (now thn : List Int) (sp : List Value) (t : Tds w au nb an ag aa tb ah n c2 u A G now thn sp) (hn : n ≤ 100000) (hc2 : n ≤ c2 ∧ c2 ≤ maxLen) (i : Int) (hwr : IntKind.i64.wrap (x.co - 1) = i) (h1 : 0 ≤ i ∧ i < n) (h3 : ¬ x.dy < A) (hd : Tkt.dayB x.dy = true) (hf : x.fr = now.getD i.toNat 0) (hl : Tkt.leadsB x.fr x.to = false) :
    Calls Try.prog 103 #[.agg #[.int .i64 x.dy, .int .i64 x.co, .int .i64 x.fr, .int .i64 x.to], .pointer (some ⟨an, 0, none⟩), .pointer (some ⟨aa, 0, none⟩), .pointer (some ⟨ag, 0, none⟩), .pointer (some ⟨au, 0, none⟩), .pointer (some ⟨ah, 0, none⟩)] w fun e w' => e = .returned (.tuple #[]) ∧ Tds w' au nb an ag aa tb ah n c2 u A false now thn sp ∧ Below au w w' := by
  have LAU := Lib.hid (block_lt t.ru)
  have LAG : Hid (au ≤ ag) := Lib.hid (by have := t.o1; have := t.o2; have := t.o3; omega)
  have hb0 := (Below.refl w.heap.size w).alloc (Nat.le_refl _) (.cells #[.int .i64 x.dy, .int .i64 x.co, .int .i64 x.fr, .int .i64 x.to] 96 (0, 0))
  have HB0 := Lib.hid hb0
  have HT := Lib.hid (t.below hb0)
  have hrx := new_rowW w (.cells #[.int .i64 x.dy, .int .i64 x.co, .int .i64 x.fr, .int .i64 x.to] 96 (0, 0)) _ rfl
  have HDY := Lib.hid (fun W => hd ▸ tday_any x.dy W)
  have HLD := Lib.hid (fun W => hl ▸ leads_any x.fr x.to W)
  generalize hW : w.alloc (.cells #[.int .i64 x.dy, .int .i64 x.co, .int .i64 x.fr, .int .i64 x.to] 96 (0, 0)) = W at *
  have e0 : W.cell? ⟨w.heap.size, 0, none⟩ = some (.int .i64 x.dy) := cell_of_row _ _ 0 _ _ _ hrx
  have e1 : W.cell? ⟨w.heap.size, 1, none⟩ = some (.int .i64 x.co) := cell_of_row _ _ 1 _ _ _ hrx
  have e2 : W.cell? ⟨w.heap.size, 2, none⟩ = some (.int .i64 x.fr) := cell_of_row _ _ 2 _ _ _ hrx
  have e3 : W.cell? ⟨w.heap.size, 3, none⟩ = some (.int .i64 x.to) := cell_of_row _ _ 3 _ _ _ hrx
  have k1 : W.cell? ⟨an, 0, none⟩ = some (.slice (some ⟨nb, 0, none⟩) n n) := cell_of_row _ _ 0 _ _ _ HT.out.ran
  have k2 : W.cell? ⟨aa, 0, none⟩ = some (.int .i64 A) := cell_of_row _ _ 0 _ _ _ HT.out.raa
  have l0 := block_lt hrx
  have l1 := block_lt HT.out.ran
  have l2 := block_lt HT.out.raa
  have l3 := block_lt HT.out.rn
  have HRX := Lib.hid hrx
  obtain ⟨k, rfl⟩ : ∃ k : Nat, i = k := ⟨i.toNat, by omega⟩
  have hk : k < n := by omega
  have kn : W.cell? ⟨nb, k, none⟩ = some (.int .i64 (now.getD k 0)) := cell_of_row _ _ k _ _ _ HT.out.rn |>.trans (rowS_get (by rw [List.getD_eq_getElem?_getD, List.getElem?_eq_getElem (by have := HT.out.ln; omega)]; rfl))
  rw [Int.toNat_natCast] at hf
  generalize now.getD k 0 = z at *
  have d1 : decide ((k : Int) < 0) = false := decide_eq_false (by omega)
  have d2 : decide (n ≤ k) = false := decide_eq_false (by omega)
  have d3 : decide (x.dy < A) = false := decide_eq_false (by omega)
  subst hf
  clear hb0 hrx t
  have hL := @Later.cell
  go_enter Try.func103, Try.ntmps103
  go_wp2_with fail
  refine wp_region_later (by kernel_rfl) (by kernel_rfl) ?_
  repeat (go_big_quiet_step (first | (go_at_call 100; with_reducible exact later_same (HDY.out _)) | (go_at_call 43; with_reducible exact later_same (HLD.out _))))
  refine wpQuiet_nil ?_
  rintro w2 ⟨u', rfl⟩
  have HT2 := Lib.hid (HT.out.below u'.prop)
  have HB2 := Lib.hid (HB0.out.trans (u'.prop.mono HB0.out.size))
  have HRX2 := Lib.hid ((u'.prop.block _ (block_lt HRX.out)).trans HRX.out)
  generalize u'.val = w3 at *
  clear e0 e1 e2 e3 k1 k2 hL l0 l1 l2 l3 
  have kg := fun j => cell_of_row w3 ag j _ _ _ HT2.out.rg
  have kf := fun j => frozen_of_row w3 ag j _ _ HT2.out.rg
  go_wp2
  refine bodyPost_ret (results_none rfl _ _ _) rfl ?_
  exact ⟨rfl, HT2.out.setG false, (HB2.out.mono (Nat.le_of_lt LAU.out)).setCell (LAG.out) _⟩
end Go.Proofs.Ytadabjkhiaidcaa
end

section
set_option linter.unusedVariables false
set_option linter.unusedSimpArgs false
namespace Go.Proofs.Ytadabjkhiaidcaa
open Go.RowKit

set_option maxRecDepth 4000 in
set_option maxHeartbeats 4000000 in
theorem told1_good (x : Evt) (w : World) (au nb an ag aa tb ah n c2 : Nat) (u A : Int) (G : Bool) (now thn : List Int) (sp : List Value) (t : Tds w au nb an ag aa tb ah n c2 u A G now thn sp) (hn : n ≤ 100000) (hc2 : n ≤ c2 ∧ c2 ≤ maxLen) (i : Int) (hwr : IntKind.i64.wrap (x.co - 1) = i) (h1 : 0 ≤ i ∧ i < n) (h3 : ¬ x.dy < A) (hd : Tkt.dayB x.dy = true) (hf : x.fr = now.getD i.toNat 0) (hl : Tkt.leadsB x.fr x.to = true) :
    Calls Try.prog 103 #[.agg #[.int .i64 x.dy, .int .i64 x.co, .int .i64 x.fr, .int .i64 x.to], .pointer (some ⟨an, 0, none⟩), .pointer (some ⟨aa, 0, none⟩), .pointer (some ⟨ag, 0, none⟩), .pointer (some ⟨au, 0, none⟩), .pointer (some ⟨ah, 0, none⟩)] w fun e w' => e = .returned (.tuple #[]) ∧ Tds w' au nb an ag aa tb ah n c2 u x.dy G (now.set i.toNat x.to) (if x.dy ≤ u then thn.set i.toNat x.to else thn) sp ∧ Below au w w' := by
  have LAU := Lib.hid (block_lt t.ru)
  have LAG : Hid (au ≤ ag) := Lib.hid (by have := t.o1; have := t.o2; have := t.o3; omega)
  have LNB : Hid (au ≤ nb) := Lib.hid (by have := t.o1; omega)
  have LAA : Hid (au ≤ aa) := Lib.hid (by have := t.o1; have := t.o2; have := t.o3; omega)
  have LTB : Hid (au ≤ tb) := Lib.hid (by have := t.o1; have := t.o2; have := t.o3; have := t.o5; omega)
  have hb0 := (Below.refl w.heap.size w).alloc (Nat.le_refl _) (.cells #[.int .i64 x.dy, .int .i64 x.co, .int .i64 x.fr, .int .i64 x.to] 96 (0, 0))
  have HB0 := Lib.hid hb0
  have HT := Lib.hid (t.below hb0)
  have hrx := new_rowW w (.cells #[.int .i64 x.dy, .int .i64 x.co, .int .i64 x.fr, .int .i64 x.to] 96 (0, 0)) _ rfl
  have HDY := Lib.hid (fun W => hd ▸ tday_any x.dy W)
  have HLD := Lib.hid (fun W => hl ▸ leads_any x.fr x.to W)
  generalize hW : w.alloc (.cells #[.int .i64 x.dy, .int .i64 x.co, .int .i64 x.fr, .int .i64 x.to] 96 (0, 0)) = W at *
  have e0 : W.cell? ⟨w.heap.size, 0, none⟩ = some (.int .i64 x.dy) := cell_of_row _ _ 0 _ _ _ hrx
  have e1 : W.cell? ⟨w.heap.size, 1, none⟩ = some (.int .i64 x.co) := cell_of_row _ _ 1 _ _ _ hrx
  have e2 : W.cell? ⟨w.heap.size, 2, none⟩ = some (.int .i64 x.fr) := cell_of_row _ _ 2 _ _ _ hrx
  have e3 : W.cell? ⟨w.heap.size, 3, none⟩ = some (.int .i64 x.to) := cell_of_row _ _ 3 _ _ _ hrx
  have k1 : W.cell? ⟨an, 0, none⟩ = some (.slice (some ⟨nb, 0, none⟩) n n) := cell_of_row _ _ 0 _ _ _ HT.out.ran
  have k2 : W.cell? ⟨aa, 0, none⟩ = some (.int .i64 A) := cell_of_row _ _ 0 _ _ _ HT.out.raa
  have l0 := block_lt hrx
  have l1 := block_lt HT.out.ran
  have l2 := block_lt HT.out.raa
  have l3 := block_lt HT.out.rn
  have HRX := Lib.hid hrx
  obtain ⟨k, rfl⟩ : ∃ k : Nat, i = k := ⟨i.toNat, by omega⟩
  have hk : k < n := by omega
  have kn : W.cell? ⟨nb, k, none⟩ = some (.int .i64 (now.getD k 0)) := cell_of_row _ _ k _ _ _ HT.out.rn |>.trans (rowS_get (by rw [List.getD_eq_getElem?_getD, List.getElem?_eq_getElem (by have := HT.out.ln; omega)]; rfl))
  rw [Int.toNat_natCast] at hf
  generalize hz : now.getD k 0 = z at *
  have d1 : decide ((k : Int) < 0) = false := decide_eq_false (by omega)
  have d2 : decide (n ≤ k) = false := decide_eq_false (by omega)
  have d3 : decide (x.dy < A) = false := decide_eq_false (by omega)
  subst hf
  have HZ := Lib.hid hz
  clear hz
  have HK := Lib.hid hk
  clear hb0 hrx
  have hL := @Later.cell
  go_enter Try.func103, Try.ntmps103
  go_wp2_with fail
  refine wp_region_later (by kernel_rfl) (by kernel_rfl) ?_
  repeat (go_big_quiet_step (first | (go_at_call 100; with_reducible exact later_same (HDY.out _)) | (go_at_call 43; with_reducible exact later_same (HLD.out _))))
  refine wpQuiet_nil ?_
  rintro w2 ⟨u', rfl⟩
  have HT2 := Lib.hid (HT.out.below u'.prop)
  have HB2 := Lib.hid (HB0.out.trans (u'.prop.mono HB0.out.size))
  have HRX2 := Lib.hid ((u'.prop.block _ (block_lt HRX.out)).trans HRX.out)
  generalize u'.val = w3 at *
  clear e0 e1 e2 e3 k1 k2 hL l0 l1 l2 l3 kn
  have g0 := fun j => cell_of_row w3 w.heap.size j _ _ _ HRX2.out
  have g1 := fun j => cell_of_row w3 an j _ _ _ HT2.out.ran
  have ka := fun j => cell_of_row w3 aa j _ _ _ HT2.out.raa
  have fa := fun j => frozen_of_row w3 aa j _ _ HT2.out.raa
  have kn : w3.cell? ⟨nb, k, none⟩ = some (.int .i64 x.fr) := cell_of_row _ _ k _ _ _ HT2.out.rn |>.trans (rowS_get (by rw [List.getElem?_eq_getElem (by have := HT2.out.ln; omega)]; rw [← HZ.out, List.getD_eq_getElem?_getD, List.getElem?_eq_getElem (by have := HT2.out.ln; omega)]; rfl))
  have n1 : nb < aa := by have := HT2.out.o2; have := HT2.out.o3; omega
  have n2 : nb < w.heap.size := block_lt t.rn
  have n3 : aa < w.heap.size := block_lt t.raa
  have n4 : an < w.heap.size := block_lt t.ran
  have n5 : nb < an := HT2.out.o2
  have n6 : an < aa := HT2.out.o3.2
  clear t
  have fn := fun j => frozen_of_row w3 nb j _ _ HT2.out.rn
  go_wp2_with fail
  go_region
  have HT3 := Lib.hid (((HT2.out.setN k x.to).setA x.dy).drew)
  have HB3 : Hid (Below au w _) := Lib.hid ((((HB2.out.mono (Nat.le_of_lt LAU.out)).setCell (p := ⟨nb, k, none⟩) LNB.out (.int .i64 x.to)).setCell (p := ⟨aa, 0, none⟩) LAA.out (.int .i64 x.dy)).drew)
  have HRX3 := Lib.hid (show (((w3.setCell ⟨nb, k, none⟩ (.int .i64 x.to)).setCell ⟨aa, 0, none⟩ (.int .i64 x.dy)).drew).heap[w.heap.size]? = _ from (heap_setCell_other _ _ _ _ (by dsimp only; omega)).trans ((heap_setCell_other _ _ _ _ (by dsimp only; omega)).trans HRX2.out))
  clear g0 g1 ka fa kn fn n1 n2 n3 n4 n5 n6
  generalize (((w3.setCell ⟨nb, k, none⟩ (.int .i64 x.to)).setCell ⟨aa, 0, none⟩ (.int .i64 x.dy)).drew) = w4 at *
  have g0 := fun j => cell_of_row w4 w.heap.size j _ _ _ HRX3.out
  have ku := fun j => cell_of_row w4 au j _ _ _ HT3.out.ru
  by_cases hu : x.dy ≤ u
  · have kh := fun j => cell_of_row w4 ah j _ _ _ HT3.out.rah
    have kt : w4.cell? ⟨tb, k, none⟩ = some (.int .i64 (thn.getD k 0)) := cell_of_row _ _ k _ _ _ HT3.out.rt |>.trans (by
      rw [List.getElem?_toArray, List.getElem?_append_left (by rw [List.length_map]; have := HT3.out.lt; omega), List.getElem?_map, List.getD_eq_getElem?_getD, List.getElem?_eq_getElem (by have := HT3.out.lt; omega)]
      rfl)
    have ft := fun j => frozen_of_row w4 tb j _ _ HT3.out.rt
    generalize thn.getD k 0 = z2 at *
    go_wp2
    go_end0
    have := HT3.out.setT k HK.out x.to
    first | exact ⟨rfl, this, HB3.out.setCell LTB.out _⟩ | exact ⟨rfl, by rw [if_pos hu]; exact this, HB3.out.setCell LTB.out _⟩
  · go_wp2
    go_end0
    first | exact ⟨rfl, HT3.out, HB3.out⟩ | exact ⟨rfl, by rw [if_neg hu]; exact HT3.out, HB3.out⟩

/-- a step, whatever it is -/
theorem told1_any (x : Evt) (s : Tkt.Told) (w : World) (au nb an ag aa tb ah n c2 : Nat) (u : Int) (G : Bool) (sp : List Value) (t : Tds w au nb an ag aa tb ah n c2 u s.at_ G s.now s.thn sp) (hn : n ≤ 100000) (hc2 : n ≤ c2 ∧ c2 ≤ maxLen) (hw : x.wf) (h0 : 0 ≤ s.at_) :
    Calls Try.prog 103 #[.agg #[.int .i64 x.dy, .int .i64 x.co, .int .i64 x.fr, .int .i64 x.to], .pointer (some ⟨an, 0, none⟩), .pointer (some ⟨aa, 0, none⟩), .pointer (some ⟨ag, 0, none⟩), .pointer (some ⟨au, 0, none⟩), .pointer (some ⟨ah, 0, none⟩)] w fun e w' => e = .returned (.tuple #[]) ∧ (∃ s' : Tkt.Told, s' = (if Tkt.evOk s x = true then Tkt.evDo u s x else s) ∧ Tds w' au nb an ag aa tb ah n c2 u s'.at_ (G && Tkt.evOk s x) s'.now s'.thn sp) ∧ Below au w w' := by
  obtain ⟨i, hwr⟩ : ∃ i, IntKind.i64.wrap (x.co - 1) = i := ⟨_, rfl⟩
  obtain ⟨-, ⟨c1, c2'⟩, -, -⟩ := hw
  have hi : (i = x.co - 1 ∧ -9223372036854775808 < x.co) ∨ (x.co = -9223372036854775808 ∧ i = 9223372036854775807) := by
    rw [IntKind.wrap_i64] at hwr; omega
  have hbad : Tkt.evOk s x = false → (Calls Try.prog 103 #[.agg #[.int .i64 x.dy, .int .i64 x.co, .int .i64 x.fr, .int .i64 x.to], .pointer (some ⟨an, 0, none⟩), .pointer (some ⟨aa, 0, none⟩), .pointer (some ⟨ag, 0, none⟩), .pointer (some ⟨au, 0, none⟩), .pointer (some ⟨ah, 0, none⟩)] w fun e w' => e = .returned (.tuple #[]) ∧ Tds w' au nb an ag aa tb ah n c2 u s.at_ false s.now s.thn sp ∧ Below au w w') → (Calls Try.prog 103 #[.agg #[.int .i64 x.dy, .int .i64 x.co, .int .i64 x.fr, .int .i64 x.to], .pointer (some ⟨an, 0, none⟩), .pointer (some ⟨aa, 0, none⟩), .pointer (some ⟨ag, 0, none⟩), .pointer (some ⟨au, 0, none⟩), .pointer (some ⟨ah, 0, none⟩)] w fun e w' => e = .returned (.tuple #[]) ∧ (∃ s' : Tkt.Told, s' = (if Tkt.evOk s x = true then Tkt.evDo u s x else s) ∧ Tds w' au nb an ag aa tb ah n c2 u s'.at_ (G && Tkt.evOk s x) s'.now s'.thn sp) ∧ Below au w w') := fun hq hc => by
    refine hc.mono fun e w' ⟨h1, h2, h3⟩ => ⟨h1, ⟨s, by rw [hq]; rfl, ?_⟩, h3⟩
    rw [hq, Bool.and_false]; exact h2
  have hln := t.ln
  by_cases h1 : i < 0
  · exact hbad (by unfold Tkt.evOk; simp; omega) (told1_low x w au nb an ag aa tb ah n c2 u _ G _ _ sp t hn hc2 i hwr ⟨h1, by omega⟩)
  by_cases h2 : (n : Int) ≤ i
  · exact hbad (by unfold Tkt.evOk; rcases hi with ⟨hi, -⟩ | ⟨hi, -⟩ <;> simp only [Bool.and_eq_false_iff, decide_eq_false_iff_not] <;> omega) (told1_high x w au nb an ag aa tb ah n c2 u _ G _ _ sp t hn hc2 i hwr ⟨h2, by omega⟩)
  have h12 : 0 ≤ i ∧ i < n := by omega
  have hix : i = x.co - 1 := by omega
  have hit : i.toNat = x.co.toNat - 1 := by omega
  by_cases h3 : x.dy < s.at_
  · exact hbad (by unfold Tkt.evOk; simp; omega) (told1_day x w au nb an ag aa tb ah n c2 u _ G _ _ sp t hn hc2 i hwr h12 h3)
  by_cases h4 : Tkt.dayB x.dy = true
  · have h4' : 0 ≤ x.dy ∧ x.dy ≤ 1000000 := by unfold Tkt.dayB at h4; simpa using h4
    by_cases h5 : x.fr = s.now.getD i.toNat 0
    · by_cases h6 : Tkt.leadsB x.fr x.to = true
      · refine (told1_good x w au nb an ag aa tb ah n c2 u _ G _ _ sp t hn hc2 i hwr h12 h3 h4 h5 h6).mono fun e w' ⟨g1, g2, g3⟩ => ⟨g1, ?_, g3⟩
        have hq : Tkt.evOk s x = true := by
          unfold Tkt.evOk
          rw [← hit, ← h5, h6]
          simp
          omega
        refine ⟨Tkt.evDo u s x, by rw [if_pos hq], ?_⟩
        rw [hq, Bool.and_true]
        unfold Tkt.evDo
        rw [← hit]
        exact g2
      · have h6' : Tkt.leadsB x.fr x.to = false := by simpa using h6
        exact hbad (by unfold Tkt.evOk; rw [h6', Bool.and_false]) (told1_leads x w au nb an ag aa tb ah n c2 u _ G _ _ sp t hn hc2 i hwr h12 h3 h4 h5 h6')
    · exact hbad (by unfold Tkt.evOk; rw [← hit]; simp only [decide_eq_false h5, Bool.and_false, Bool.false_and]) (told1_from x w au nb an ag aa tb ah n c2 u _ G _ _ sp t hn hc2 i hwr h12 h3 h4 h5)
  · have h4' : Tkt.dayB x.dy = false := by simpa using h4
    have h4'' : x.dy < 0 ∨ 1000000 < x.dy := by unfold Tkt.dayB at h4; simp at h4; omega
    exact hbad (by unfold Tkt.evOk; simp; omega) (told1_max x w au nb an ag aa tb ah n c2 u _ G _ _ sp t hn hc2 i hwr h12 h3 h4')
end Go.Proofs.Ytadabjkhiaidcaa
end
