/- Ways of: LetterReads returns true. -/
import Derived.Test.YtellhmbebimenaaDoorLr42
import Derived.Test.YtellhmbebimenaaDoorLr43
import Derived.Test.YtellhmbebimenaaDoorLr46
import Derived.Test.YtellhmbebimenaaDoorLr49
import Derived.Test.YtellhmbebimenaaDoorLr50
import Derived.Test.YtellhmbebimenaaDoorLr1

set_option linter.unusedVariables false
set_option linter.unusedSimpArgs false
namespace Go.Proofs.YtellhmbebimenaaDoor.letterReads
open Go.ChangeShapes Go.WideShapes Go.ChangeAt Go.RowKit Go.Deep

attribute [local go_sem ↓] ml_execLoad lt_execLoad

attribute [local go_sem] ml_load lt_load loL_drew okL_drew

set_option maxRecDepth 8000 in
theorem walkL (v : Value) (b : List UInt8) (w : World) (hv : BS w v b) (htab : Tab w) (hl : 300 < b.length) : Calls Tryd.prog 6 #[v] w fun e w' => e = .returned (.bool true) ∧ Below w.heap.size w w' := by
  obtain ⟨p, cap, rfl, g1, g2, -⟩ := id hv
  unfold maxLen at g2
  obtain ⟨m, hm⟩ : ∃ m, b.length = m := ⟨_, rfl⟩
  rw [hm] at g1 hl ⊢
  go_enter Tryd.func6, Tryd.ntmps6
  go_wp2_with fail
  refine (known20_any _ htab).mono ?_
  rintro e w1 ⟨rfl, hb1⟩
  go_wp2
  go_ret
  exact ⟨rfl, hb1⟩
set_option maxRecDepth 8000 in
set_option maxHeartbeats 8000000 in
theorem walkN (v : Value) (b : List UInt8) (w : World) (hv : BS w v b) (htab : Tab w) (hl : b.length ≤ 300) (hok : okL20 b = false) : Calls Tryd.prog 6 #[v] w fun e w' => e = .returned (.bool true) ∧ Below w.heap.size w w' := by
  have HT := Lib.hid htab
  have HV := Lib.hid hv
  have HL := Lib.hid hl
  obtain ⟨p, cap, rfl, g1, g2, -⟩ := id hv
  unfold maxLen at g2
  have hlo : lOf b = zLt := by unfold lOf; rw [if_neg (by rw [hok]; simp)]
  have HOF : Hid (∀ W v, BS W v b → Calls Tryd.prog 18 #[v] W fun e w' => e = .returned (.tuple #[.agg #[.int .i64 0, .int .i64 0, .int .u64 0, .int .u64 0, .int .i64 0, .int .u64 0, .int .i64 0, .int .i64 0, .int .i64 0, .int .i64 0, .int .i64 0, .int .i64 0, .int .i64 0, .int .i64 0, .int .u64 0], .int .i64 4]) ∧ Below W.heap.size W w') := Lib.hid (fun W v h => by
    have h1 := lOf_any v b (by omega) W h
    rw [hlo, hok] at h1
    exact h1)
  have HRF : Hid (∀ W v, BS W v b → Calls Tryd.prog 21 #[v] W fun e w' => e = .returned (.tuple #[.agg #[.int .i64 0, .int .i64 0, .int .u64 0, .int .u64 0, .int .i64 0, .int .u64 0, .int .i64 0, .int .i64 0, .int .i64 0, .int .i64 0, .int .i64 0, .int .i64 0, .int .i64 0, .int .i64 0, .int .u64 0], .bool false]) ∧ Below W.heap.size W w') := Lib.hid (fun W v h => by
    have h1 := rOf20_any v b W h
    rw [hlo, hok] at h1
    exact h1)
  have hE : ∀ W : World, (binOp .neq 31 (.agg #[.int .i64 0, .int .i64 0, .int .u64 0, .int .u64 0, .int .i64 0, .int .u64 0, .int .i64 0, .int .i64 0, .int .i64 0, .int .i64 0, .int .i64 0, .int .i64 0, .int .i64 0, .int .i64 0, .int .u64 0]) (.agg #[.int .i64 0, .int .i64 0, .int .u64 0, .int .u64 0, .int .i64 0, .int .u64 0, .int .i64 0, .int .i64 0, .int .i64 0, .int .i64 0, .int .i64 0, .int .i64 0, .int .i64 0, .int .i64 0, .int .u64 0])).run Tryd.prog W = .ok (.bool false) W := fun W => by
    have h := neqL zLt zLt W
    rw [(Lt.eq_iff zLt zLt).2 rfl] at h
    exact h
  have hG := guardNL
  clear hlo hok htab
  have hs0 : ¬ 300 < b.length := by omega
  obtain ⟨S, hS⟩ : ∃ S : ByteArray, ⟨b.toArray⟩ = S := ⟨_, rfl⟩
  have HSV : Hid (∀ W v, BS W v b → (convert 38 9 v).run Tryd.prog W = .ok (.string S) W) := Lib.hid (fun W v h => by rw [← hS]; exact h.to_string)
  clear hS
  obtain ⟨m, hm⟩ : ∃ m, b.length = m := ⟨_, rfl⟩
  rw [hm] at HV g1 hs0 hl HL ⊢
  have HM := Lib.hid hm
  clear hm hv hl
  go_enter Tryd.func6, Tryd.ntmps6
  go_wp2_with (at_builtin; refine wpList_append_bytes rfl _ _ rfl w.heap.size _ 0 [] rfl (World.ownsRow_nil _ _ _ _) _ b rfl HV.out (by have := HM.out; have := HL.out; omega) (Nat.le_refl _) ?_)
  intro v1 w1 hown hg1 hn1 hat1
  rw [HM.out] at hown
  have HB : Hid (Below w.heap.size w w1) := Lib.hid ((Below.refl _ _).grown hg1 (Nat.le_refl _) (fun q hq => by cases hq))
  have hown' : w1.ownsRow w.heap.size 5 1 v1 m (bytesV b) := by simpa using hown
  have HOB := Lib.hid (BS.of_own hown')
  obtain ⟨q1, c1, rfl⟩ := own_form hown'
  clear hown hown' hg1 hn1 hat1
  go_wp2_with fail
  refine (HOF.out _ _ HOB.out).mono ?_
  rintro e w2 ⟨rfl, hb⟩
  replace HB := Lib.hid (HB.out.trans (hb.mono HB.out.size))
  replace HOB := Lib.hid (HOB.out.below hb)
  clear hb
  go_upto_region 5 with fail
  have hb := (Below.refl w2.heap.size w2).alloc (Nat.le_refl _) (.cells #[.int .i64 0, .int .i64 0, .int .u64 0, .int .u64 0, .int .i64 0, .int .u64 0, .int .i64 0, .int .i64 0, .int .i64 0, .int .i64 0, .int .i64 0, .int .i64 0, .int .i64 0, .int .i64 0, .int .u64 0] 31)
  have HRX := Lib.hid (new_rowW w2 (.cells #[.int .i64 0, .int .i64 0, .int .u64 0, .int .u64 0, .int .i64 0, .int .u64 0, .int .i64 0, .int .i64 0, .int .i64 0, .int .i64 0, .int .i64 0, .int .i64 0, .int .i64 0, .int .i64 0, .int .u64 0] 31) _ rfl)
  replace HB := Lib.hid (HB.out.trans (hb.mono HB.out.size))
  replace HOB := Lib.hid (HOB.out.below hb)
  clear hb
  generalize w2.alloc (.cells #[.int .i64 0, .int .i64 0, .int .u64 0, .int .u64 0, .int .i64 0, .int .u64 0, .int .i64 0, .int .i64 0, .int .i64 0, .int .i64 0, .int .i64 0, .int .i64 0, .int .i64 0, .int .i64 0, .int .u64 0] 31) = w3 at *
  generalize w2.heap.size = g4 at *
  go_wp2_with fail
  refine (HRF.out _ _ (HV.out.below HB.out)).mono ?_
  rintro e w4 ⟨rfl, hb⟩
  replace HB := Lib.hid (HB.out.trans (hb.mono HB.out.size))
  replace HRX := Lib.hid ((hb.block _ (block_lt HRX.out)).trans HRX.out)
  replace HOB := Lib.hid (HOB.out.below hb)
  clear hb
  go_upto_region 6 with fail
  have hb := (Below.refl w4.heap.size w4).alloc (Nat.le_refl _) (.cells #[.int .i64 0, .int .i64 0, .int .u64 0, .int .u64 0, .int .i64 0, .int .u64 0, .int .i64 0, .int .i64 0, .int .i64 0, .int .i64 0, .int .i64 0, .int .i64 0, .int .i64 0, .int .i64 0, .int .u64 0] 31)
  have HRY := Lib.hid (new_rowW w4 (.cells #[.int .i64 0, .int .i64 0, .int .u64 0, .int .u64 0, .int .i64 0, .int .u64 0, .int .i64 0, .int .i64 0, .int .i64 0, .int .i64 0, .int .i64 0, .int .i64 0, .int .i64 0, .int .i64 0, .int .u64 0] 31) _ rfl)
  replace HB := Lib.hid (HB.out.trans (hb.mono HB.out.size))
  replace HRX := Lib.hid ((hb.block _ (block_lt HRX.out)).trans HRX.out)
  replace HOB := Lib.hid (HOB.out.below hb)
  clear hb
  generalize w4.alloc (.cells #[.int .i64 0, .int .i64 0, .int .u64 0, .int .u64 0, .int .i64 0, .int .u64 0, .int .i64 0, .int .i64 0, .int .i64 0, .int .i64 0, .int .i64 0, .int .i64 0, .int .i64 0, .int .i64 0, .int .u64 0] 31) = w5 at *
  generalize w4.heap.size = g6 at *
  have hv1 := HSV.out _ _ HOB.out
  have hv2 := HSV.out _ _ (HV.out.below HB.out)
  obtain ⟨f1, f2⟩ := row_loT 15 HRX.out rfl rfl
  obtain ⟨f3, f4⟩ := row_loT 15 HRY.out rfl rfl
  go_wp2_with fail
  clear f1 f2 f3 f4
  clear hv1 hv2
  refine (known20_any _ (HT.out.below HB.out)).mono ?_
  rintro e w6 ⟨rfl, hb⟩
  replace HB := Lib.hid (HB.out.trans (hb.mono HB.out.size))
  clear hb
  go_wp2
  go_ret
  exact ⟨rfl, HB.out⟩
set_option maxRecDepth 8000 in
set_option maxHeartbeats 8000000 in
theorem walkY (v : Value) (b : List UInt8) (w : World) (hv : BS w v b) (htab : Tab w) (hl : b.length ≤ 300) (hok : okL20 b = true) : Calls Tryd.prog 6 #[v] w fun e w' => e = .returned (.bool true) ∧ Below w.heap.size w w' := by
  have HT := Lib.hid htab
  have HV := Lib.hid hv
  have HL := Lib.hid hl
  obtain ⟨p, cap, rfl, g1, g2, -⟩ := id hv
  unfold maxLen at g2
  obtain ⟨X, hX⟩ : ∃ X, lGet b = X := ⟨_, rfl⟩
  have heo := encLt_of hok
  have hwf := lGet_wf b
  rw [hX] at heo hwf
  have hlo : lOf b = X := by unfold lOf; rw [if_pos hok, hX]
  have HOF : Hid (∀ W v, BS W v b → Calls Tryd.prog 18 #[v] W fun e w' => e = .returned (.tuple #[.agg #[.int .i64 X.f, .int .i64 X.t, .int .u64 X.n, .int .u64 X.a, .int .i64 X.k, .int .u64 X.tk, .int .i64 X.c, .int .i64 X.d, .int .i64 X.co, .int .i64 X.fl, .int .i64 X.dy, .int .i64 X.va, .int .i64 X.st, .int .i64 X.ho, .int .u64 X.nx], .int .i64 0]) ∧ Below W.heap.size W w') := Lib.hid (fun W v h => by
    have h1 := lOf_any v b (by omega) W h
    rw [hlo, hok] at h1
    exact h1)
  have HRF : Hid (∀ W v, BS W v b → Calls Tryd.prog 21 #[v] W fun e w' => e = .returned (.tuple #[.agg #[.int .i64 X.f, .int .i64 X.t, .int .u64 X.n, .int .u64 X.a, .int .i64 X.k, .int .u64 X.tk, .int .i64 X.c, .int .i64 X.d, .int .i64 X.co, .int .i64 X.fl, .int .i64 X.dy, .int .i64 X.va, .int .i64 X.st, .int .i64 X.ho, .int .u64 X.nx], .bool true]) ∧ Below W.heap.size W w') := Lib.hid (fun W v h => by
    have h1 := rOf20_any v b W h
    rw [hlo, hok] at h1
    exact h1)
  have hE : ∀ W : World, (binOp .neq 31 (.agg #[.int .i64 X.f, .int .i64 X.t, .int .u64 X.n, .int .u64 X.a, .int .i64 X.k, .int .u64 X.tk, .int .i64 X.c, .int .i64 X.d, .int .i64 X.co, .int .i64 X.fl, .int .i64 X.dy, .int .i64 X.va, .int .i64 X.st, .int .i64 X.ho, .int .u64 X.nx]) (.agg #[.int .i64 X.f, .int .i64 X.t, .int .u64 X.n, .int .u64 X.a, .int .i64 X.k, .int .u64 X.tk, .int .i64 X.c, .int .i64 X.d, .int .i64 X.co, .int .i64 X.fl, .int .i64 X.dy, .int .i64 X.va, .int .i64 X.st, .int .i64 X.ho, .int .u64 X.nx])).run Tryd.prog W = .ok (.bool false) W := fun W => by
    have h := neqL X X W
    rw [(Lt.eq_iff X X).2 rfl] at h
    exact h
  have hG := guardNL
  have HBY : Hid (∀ W : World, Calls Tryd.prog 19 #[.agg #[.int .i64 X.f, .int .i64 X.t, .int .u64 X.n, .int .u64 X.a, .int .i64 X.k, .int .u64 X.tk, .int .i64 X.c, .int .i64 X.d, .int .i64 X.co, .int .i64 X.fl, .int .i64 X.dy, .int .i64 X.va, .int .i64 X.st, .int .i64 X.ho, .int .u64 X.nx]] W fun e w' => ∃ u, e = .returned u ∧ BS w' u b ∧ Below W.heap.size W w') := Lib.hid (fun W => (rBytes20_any X hwf heo.2 W).mono fun e w' ⟨u, he, ho, hb⟩ => ⟨u, he, by rw [heo.1] at ho; exact BS.of_own ho, hb⟩)
  clear heo hwf hX
  clear hlo hok htab
  have hs0 : ¬ 300 < b.length := by omega
  obtain ⟨S, hS⟩ : ∃ S : ByteArray, ⟨b.toArray⟩ = S := ⟨_, rfl⟩
  have HSV : Hid (∀ W v, BS W v b → (convert 38 9 v).run Tryd.prog W = .ok (.string S) W) := Lib.hid (fun W v h => by rw [← hS]; exact h.to_string)
  clear hS
  obtain ⟨m, hm⟩ : ∃ m, b.length = m := ⟨_, rfl⟩
  rw [hm] at HV g1 hs0 hl HL ⊢
  have HM := Lib.hid hm
  clear hm hv hl
  go_enter Tryd.func6, Tryd.ntmps6
  go_wp2_with (at_builtin; refine wpList_append_bytes rfl _ _ rfl w.heap.size _ 0 [] rfl (World.ownsRow_nil _ _ _ _) _ b rfl HV.out (by have := HM.out; have := HL.out; omega) (Nat.le_refl _) ?_)
  intro v1 w1 hown hg1 hn1 hat1
  rw [HM.out] at hown
  have HB : Hid (Below w.heap.size w w1) := Lib.hid ((Below.refl _ _).grown hg1 (Nat.le_refl _) (fun q hq => by cases hq))
  have hown' : w1.ownsRow w.heap.size 5 1 v1 m (bytesV b) := by simpa using hown
  have HOB := Lib.hid (BS.of_own hown')
  obtain ⟨q1, c1, rfl⟩ := own_form hown'
  clear hown hown' hg1 hn1 hat1
  go_wp2_with fail
  refine (HOF.out _ _ HOB.out).mono ?_
  rintro e w2 ⟨rfl, hb⟩
  replace HB := Lib.hid (HB.out.trans (hb.mono HB.out.size))
  replace HOB := Lib.hid (HOB.out.below hb)
  clear hb
  go_upto_region 5 with fail
  have hb := (Below.refl w2.heap.size w2).alloc (Nat.le_refl _) (.cells #[.int .i64 X.f, .int .i64 X.t, .int .u64 X.n, .int .u64 X.a, .int .i64 X.k, .int .u64 X.tk, .int .i64 X.c, .int .i64 X.d, .int .i64 X.co, .int .i64 X.fl, .int .i64 X.dy, .int .i64 X.va, .int .i64 X.st, .int .i64 X.ho, .int .u64 X.nx] 31)
  have HRX := Lib.hid (new_rowW w2 (.cells #[.int .i64 X.f, .int .i64 X.t, .int .u64 X.n, .int .u64 X.a, .int .i64 X.k, .int .u64 X.tk, .int .i64 X.c, .int .i64 X.d, .int .i64 X.co, .int .i64 X.fl, .int .i64 X.dy, .int .i64 X.va, .int .i64 X.st, .int .i64 X.ho, .int .u64 X.nx] 31) _ rfl)
  replace HB := Lib.hid (HB.out.trans (hb.mono HB.out.size))
  replace HOB := Lib.hid (HOB.out.below hb)
  clear hb
  generalize w2.alloc (.cells #[.int .i64 X.f, .int .i64 X.t, .int .u64 X.n, .int .u64 X.a, .int .i64 X.k, .int .u64 X.tk, .int .i64 X.c, .int .i64 X.d, .int .i64 X.co, .int .i64 X.fl, .int .i64 X.dy, .int .i64 X.va, .int .i64 X.st, .int .i64 X.ho, .int .u64 X.nx] 31) = w3 at *
  generalize w2.heap.size = g4 at *
  go_wp2_with fail
  refine (HRF.out _ _ (HV.out.below HB.out)).mono ?_
  rintro e w4 ⟨rfl, hb⟩
  replace HB := Lib.hid (HB.out.trans (hb.mono HB.out.size))
  replace HRX := Lib.hid ((hb.block _ (block_lt HRX.out)).trans HRX.out)
  replace HOB := Lib.hid (HOB.out.below hb)
  clear hb
  go_upto_region 6 with fail
  have hb := (Below.refl w4.heap.size w4).alloc (Nat.le_refl _) (.cells #[.int .i64 X.f, .int .i64 X.t, .int .u64 X.n, .int .u64 X.a, .int .i64 X.k, .int .u64 X.tk, .int .i64 X.c, .int .i64 X.d, .int .i64 X.co, .int .i64 X.fl, .int .i64 X.dy, .int .i64 X.va, .int .i64 X.st, .int .i64 X.ho, .int .u64 X.nx] 31)
  have HRY := Lib.hid (new_rowW w4 (.cells #[.int .i64 X.f, .int .i64 X.t, .int .u64 X.n, .int .u64 X.a, .int .i64 X.k, .int .u64 X.tk, .int .i64 X.c, .int .i64 X.d, .int .i64 X.co, .int .i64 X.fl, .int .i64 X.dy, .int .i64 X.va, .int .i64 X.st, .int .i64 X.ho, .int .u64 X.nx] 31) _ rfl)
  replace HB := Lib.hid (HB.out.trans (hb.mono HB.out.size))
  replace HRX := Lib.hid ((hb.block _ (block_lt HRX.out)).trans HRX.out)
  replace HOB := Lib.hid (HOB.out.below hb)
  clear hb
  generalize w4.alloc (.cells #[.int .i64 X.f, .int .i64 X.t, .int .u64 X.n, .int .u64 X.a, .int .i64 X.k, .int .u64 X.tk, .int .i64 X.c, .int .i64 X.d, .int .i64 X.co, .int .i64 X.fl, .int .i64 X.dy, .int .i64 X.va, .int .i64 X.st, .int .i64 X.ho, .int .u64 X.nx] 31) = w5 at *
  generalize w4.heap.size = g6 at *
  have hv1 := HSV.out _ _ HOB.out
  have hv2 := HSV.out _ _ (HV.out.below HB.out)
  obtain ⟨f1, f2⟩ := row_loT 15 HRX.out rfl rfl
  obtain ⟨f3, f4⟩ := row_loT 15 HRY.out rfl rfl
  go_upto_region 10 with fail
  clear f1 f2 f3 f4
  clear hv1 hv2
  refine wp_region_G (C := fun W => (loL 15 W g6 0 = [.int .i64 X.f, .int .i64 X.t, .int .u64 X.n, .int .u64 X.a, .int .i64 X.k, .int .u64 X.tk, .int .i64 X.c, .int .i64 X.d, .int .i64 X.co, .int .i64 X.fl, .int .i64 X.dy, .int .i64 X.va, .int .i64 X.st, .int .i64 X.ho, .int .u64 X.nx] ∧ okL 15 W g6 0) ∧ (convert 38 9 (.slice p m cap)).run Tryd.prog W = .ok (.string S) W) (s0 := 13) (by kernel_rfl) ?_
  have hb := (Below.refl w5.heap.size w5).drew
  replace HB := Lib.hid (HB.out.trans (hb.mono HB.out.size))
  replace HRY := Lib.hid ((hb.block _ (block_lt HRY.out)).trans HRY.out)
  clear hb
  generalize w5.drew = wd at *
  have hHeld := (show (loL 15 wd g6 0 = [.int .i64 X.f, .int .i64 X.t, .int .u64 X.n, .int .u64 X.a, .int .i64 X.k, .int .u64 X.tk, .int .i64 X.c, .int .i64 X.d, .int .i64 X.co, .int .i64 X.fl, .int .i64 X.dy, .int .i64 X.va, .int .i64 X.st, .int .i64 X.ho, .int .u64 X.nx] ∧ okL 15 wd g6 0) ∧ (convert 38 9 (.slice p m cap)).run Tryd.prog wd = .ok (.string S) wd from ⟨row_loT 15 HRY.out rfl rfl, HSV.out _ _ (HV.out.below HB.out)⟩)
  refine wpAnyG_takeU (i := 0) (oi := { dst := some 41, op := Op.move (Operand.tmp 5), type := 24, pos := "law.go:50", after := #[], guard := none }) (v := ?_) rfl (by kernel_rfl) (by kernel_rfl) (by kernel_rfl) (by decide) (fun _ _ _ h => h) (Or.inl ⟨by rfl, ?_⟩) (.inl (by assumption)) ?_
  rotate_left
  · intro w hSw; go_simp; try with_reducible rfl
  try simp only [Act.put, List.setIfInBounds_toArray, List.set_cons_zero, List.set_cons_succ]
  refine wpAnyG_takeU (i := 1) (oi := { dst := some 42, op := Op.binOp BinOp.eql 24 (Operand.tmp 41) (Operand.const (Value.int IntKind.i64 0)) 24, type := 4, pos := "law.go:50", after := #[{ on := 0, ground := Ground.data }], guard := none }) (v := ?_) rfl (by kernel_rfl) (by kernel_rfl) (by kernel_rfl) (by decide) (fun _ _ _ h => h) (Or.inl ⟨by rfl, ?_⟩) (.inl (by assumption)) ?_
  rotate_left
  · intro w hSw; go_simp; try with_reducible rfl
  try simp only [Act.put, List.setIfInBounds_toArray, List.set_cons_zero, List.set_cons_succ]
  refine wpAnyG_takeU (i := 2) (oi := { dst := some 43, op := Op.move (Operand.tmp 42), type := 4, pos := "law.go:50", after := #[{ on := 1, ground := Ground.data }], guard := none }) (v := ?_) rfl (by kernel_rfl) (by kernel_rfl) (by kernel_rfl) (by decide) (fun _ _ _ h => h) (Or.inl ⟨by rfl, ?_⟩) (.inl (by assumption)) ?_
  rotate_left
  · intro w hSw; go_simp; try with_reducible rfl
  try simp only [Act.put, List.setIfInBounds_toArray, List.set_cons_zero, List.set_cons_succ]
  refine wpAnyG_takeM (i := 3) (oi := { dst := some 44, op := Op.load 31 (Operand.tmp 6), type := 31, pos := "law.go:50", after := #[{ on := 2, ground := Ground.guard }], guard := some (2, true) }) (v := ?_) (ms := [4, 5, 8, 9, 10, 11, 12, 13]) rfl (by kernel_rfl) (by kernel_rfl) (by kernel_rfl) (by kernel_rfl) (by kernel_rfl) (fun _ _ _ h => h) (Or.inl ⟨by rfl, ?_⟩) (by assumption) ?_
  rotate_left
  · intro w hSw; (try dsimp only at hSw); go_simp; try with_reducible rfl
  try simp only [Act.put, List.setIfInBounds_toArray, List.set_cons_zero, List.set_cons_succ]
  refine wpAnyG_takeU (i := 6) (oi := { dst := some 47, op := Op.move (Operand.tmp 0), type := 38, pos := "law.go:50", after := #[{ on := 2, ground := Ground.guard }], guard := some (2, true) }) (v := ?_) rfl (by kernel_rfl) (by kernel_rfl) (by kernel_rfl) (by decide) (fun _ _ _ h => h) (Or.inl ⟨by rfl, ?_⟩) (.inl (by assumption)) ?_
  rotate_left
  · intro w hSw; go_simp; try with_reducible rfl
  try simp only [Act.put, List.setIfInBounds_toArray, List.set_cons_zero, List.set_cons_succ]
  refine wpAnyG_takeM (i := 7) (oi := { dst := some 48, op := Op.convert 38 9 (Operand.tmp 47), type := 9, pos := "law.go:50", after := #[{ on := 6, ground := Ground.data }, { on := 2, ground := Ground.guard }], guard := some (2, true) }) (v := ?_) (ms := [8, 9, 10, 11, 12, 13]) rfl (by kernel_rfl) (by kernel_rfl) (by kernel_rfl) (by kernel_rfl) (by kernel_rfl) (fun _ _ _ h => h) (Or.inl ⟨by rfl, ?_⟩) (by assumption) ?_
  rotate_left
  · intro w hSw; (try dsimp only at hSw); go_simp; try with_reducible rfl
  try simp only [Act.put, List.setIfInBounds_toArray, List.set_cons_zero, List.set_cons_succ]
  refine wpAnyG_one (i := 4) (o := { dst := some 45, op := Op.call { callee := Callee.value (Operand.func 19), args := #[Operand.tmp 44], argTypes := #[31] }, type := 38, pos := "law.go:50", after := #[{ on := 3, ground := Ground.data }, { on := 2, ground := Ground.chain }, { on := 2, ground := Ground.guard }], guard := some (2, true) }) (by kernel_rfl) rfl (fun K hK => ?_)
  go_simp
  go_at_call 19
  refine (HBY.out _).mono ?_
  rintro e wn ⟨v2, rfl, ho2, hb⟩
  have HO2 := Lib.hid ho2
  clear ho2 hHeld
  replace HB := Lib.hid (HB.out.trans (hb.mono HB.out.size))
  replace HRY := Lib.hid ((hb.block _ (block_lt HRY.out)).trans HRY.out)
  clear hb
  have hHeld := (show (loL 15 wn g6 0 = [.int .i64 X.f, .int .i64 X.t, .int .u64 X.n, .int .u64 X.a, .int .i64 X.k, .int .u64 X.tk, .int .i64 X.c, .int .i64 X.d, .int .i64 X.co, .int .i64 X.fl, .int .i64 X.dy, .int .i64 X.va, .int .i64 X.st, .int .i64 X.ho, .int .u64 X.nx] ∧ okL 15 wn g6 0) ∧ (convert 38 9 (.slice p m cap)).run Tryd.prog wn = .ok (.string S) wn from ⟨row_loT 15 HRY.out rfl rfl, HSV.out _ _ (HV.out.below HB.out)⟩)
  refine hK.out _ _ (.inl hHeld) ?_
  clear hK K
  try simp only [Act.put, List.setIfInBounds_toArray, List.set_cons_zero, List.set_cons_succ]
  refine wpAnyG_one (i := 5) (o := { dst := some 46, op := Op.convert 38 9 (Operand.tmp 45), type := 9, pos := "law.go:50", after := #[{ on := 4, ground := Ground.data }, { on := 2, ground := Ground.guard }], guard := some (2, true) }) (by kernel_rfl) rfl (fun K hK => ?_)
  have hcv := HSV.out _ _ HO2.out
  go_simp
  refine hK.out _ _ (.inl hHeld) ?_
  clear hK K
  try simp only [Act.put, List.setIfInBounds_toArray, List.set_cons_zero, List.set_cons_succ]
  clear hcv
  refine wpAnyG_takeU (i := 8) (oi := { dst := some 49, op := Op.binOp BinOp.eql 9 (Operand.tmp 46) (Operand.tmp 48) 9, type := 4, pos := "law.go:50", after := #[{ on := 5, ground := Ground.data }, { on := 7, ground := Ground.data }, { on := 2, ground := Ground.guard }], guard := some (2, true) }) (v := ?_) rfl (by kernel_rfl) (by kernel_rfl) (by kernel_rfl) (by decide) (fun _ _ _ h => h) (Or.inl ⟨by rfl, ?_⟩) (.inl (by assumption)) ?_
  rotate_left
  · intro w hSw; go_simp; try with_reducible rfl
  try simp only [Act.put, List.setIfInBounds_toArray, List.set_cons_zero, List.set_cons_succ]
  refine wpAnyG_takeU (i := 9) (oi := { dst := some 50, op := Op.pick (Operand.tmp 43) (Operand.tmp 49) (Operand.const (Value.bool false)), type := 4, pos := "law.go:50", after := #[{ on := 2, ground := Ground.data }, { on := 8, ground := Ground.data }], guard := none }) (v := ?_) rfl (by kernel_rfl) (by kernel_rfl) (by kernel_rfl) (by decide) (fun _ _ _ h => h) (Or.inl ⟨by rfl, ?_⟩) (.inl (by assumption)) ?_
  rotate_left
  · intro w hSw; go_simp; try with_reducible rfl
  try simp only [Act.put, List.setIfInBounds_toArray, List.set_cons_zero, List.set_cons_succ]
  refine wpAnyG_takeU (i := 10) (oi := { dst := some 51, op := Op.move (Operand.tmp 50), type := 4, pos := "law.go:50", after := #[{ on := 9, ground := Ground.data }, { on := 4, ground := Ground.chain }], guard := none }) (v := ?_) rfl (by kernel_rfl) (by kernel_rfl) (by kernel_rfl) (by decide) (fun _ _ _ h => h) (Or.inl ⟨by rfl, ?_⟩) (.inl (by assumption)) ?_
  rotate_left
  · intro w hSw; go_simp; try with_reducible rfl
  try simp only [Act.put, List.setIfInBounds_toArray, List.set_cons_zero, List.set_cons_succ]
  refine wpAnyG_one (i := 11) (o := { dst := some 52, op := Op.call { callee := Callee.value (Operand.func 13), args := #[], argTypes := #[] }, type := 4, pos := "law.go:50", after := #[{ on := 10, ground := Ground.chain }, { on := 10, ground := Ground.guard }], guard := some (10, true) }) (by kernel_rfl) rfl (fun K hK => ?_)
  go_simp
  go_at_call 13
  refine (known20_any _ (HT.out.below HB.out)).mono ?_
  rintro e wq ⟨rfl, hb⟩
  clear hHeld
  replace HB := Lib.hid (HB.out.trans (hb.mono HB.out.size))
  replace HRY := Lib.hid ((hb.block _ (block_lt HRY.out)).trans HRY.out)
  clear hb
  have hHeld := (show (loL 15 wq g6 0 = [.int .i64 X.f, .int .i64 X.t, .int .u64 X.n, .int .u64 X.a, .int .i64 X.k, .int .u64 X.tk, .int .i64 X.c, .int .i64 X.d, .int .i64 X.co, .int .i64 X.fl, .int .i64 X.dy, .int .i64 X.va, .int .i64 X.st, .int .i64 X.ho, .int .u64 X.nx] ∧ okL 15 wq g6 0) ∧ (convert 38 9 (.slice p m cap)).run Tryd.prog wq = .ok (.string S) wq from ⟨row_loT 15 HRY.out rfl rfl, HSV.out _ _ (HV.out.below HB.out)⟩)
  refine hK.out _ _ (.inl hHeld) ?_
  clear hK K
  try simp only [Act.put, List.setIfInBounds_toArray, List.set_cons_zero, List.set_cons_succ]
  refine wpAnyG_takeU (i := 12) (oi := { dst := some 53, op := Op.pick (Operand.tmp 51) (Operand.tmp 52) (Operand.const (Value.bool false)), type := 4, pos := "law.go:50", after := #[{ on := 10, ground := Ground.data }, { on := 11, ground := Ground.data }], guard := none }) (v := ?_) rfl (by kernel_rfl) (by kernel_rfl) (by kernel_rfl) (by decide) (fun _ _ _ h => h) (Or.inl ⟨by rfl, ?_⟩) (.inl (by assumption)) ?_
  rotate_left
  · intro w hSw; go_simp; try with_reducible rfl
  try simp only [Act.put, List.setIfInBounds_toArray, List.set_cons_zero, List.set_cons_succ]
  refine wpAnyG_one (i := 13) (o := { dst := some 2, op := Op.assign (Operand.tmp 53), type := 4, pos := "law.go:50", after := #[{ on := 12, ground := Ground.data }, { on := 11, ground := Ground.chain }, { on := 0, ground := Ground.phase }, { on := 1, ground := Ground.phase }, { on := 2, ground := Ground.phase }, { on := 3, ground := Ground.phase }, { on := 4, ground := Ground.phase }, { on := 5, ground := Ground.phase }, { on := 6, ground := Ground.phase }, { on := 7, ground := Ground.phase }, { on := 8, ground := Ground.phase }, { on := 9, ground := Ground.phase }, { on := 10, ground := Ground.phase }, { on := 11, ground := Ground.phase }, { on := 12, ground := Ground.phase }], guard := none }) (by kernel_rfl) rfl (fun K hK => ?_)
  go_simp
  refine hK.out _ _ (.inr rfl) ?_
  clear hK K
  try simp only [Act.put, List.setIfInBounds_toArray, List.set_cons_zero, List.set_cons_succ]
  refine wpAnyG_done (by kernel_rfl) ?_ _
  clear hHeld
  go_wp2
  go_ret
  exact ⟨rfl, HB.out⟩
end Go.Proofs.YtellhmbebimenaaDoor.letterReads
