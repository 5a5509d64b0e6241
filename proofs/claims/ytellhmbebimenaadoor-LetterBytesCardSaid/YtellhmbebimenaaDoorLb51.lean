/- Ways of: LetterBytes returns true. -/
import Derived.Test.YtellhmbebimenaaDoorLb43
import Derived.Test.YtellhmbebimenaaDoorLb45
import Derived.Test.YtellhmbebimenaaDoorLb48
import Derived.Test.YtellhmbebimenaaDoorLb50
import Derived.Test.YtellhmbebimenaaDoorLb1

set_option linter.unusedVariables false
set_option linter.unusedSimpArgs false
namespace Go.Proofs.YtellhmbebimenaaDoor.letterBytes
open Go.ChangeShapes Go.WideShapes Go.ChangeAt Go.RowKit Go.Deep

attribute [local go_sem ↓] ml_execLoad lt_execLoad

attribute [local go_sem] ml_load lt_load loL_drew okL_drew

set_option maxRecDepth 8000 in
set_option maxHeartbeats 8000000 in
theorem walkN (x : Lt) (hx : x.wf) (w : World) (htab : Tab w) (mx : x.may = false) : Calls Tryd.prog 5 #[.agg #[.int .i64 x.f, .int .i64 x.t, .int .u64 x.n, .int .u64 x.a, .int .i64 x.k, .int .u64 x.tk, .int .i64 x.c, .int .i64 x.d, .int .i64 x.co, .int .i64 x.fl, .int .i64 x.dy, .int .i64 x.va, .int .i64 x.st, .int .i64 x.ho, .int .u64 x.nx]] w fun e w' => e = .returned (.bool true) ∧ Below w.heap.size w w' := by
  have HT := Lib.hid htab
  have HRM : Hid (∀ W : World, Calls Tryd.prog 10 #[.agg #[.int .i64 x.f, .int .i64 x.t, .int .u64 x.n, .int .u64 x.a, .int .i64 x.k, .int .u64 x.tk, .int .i64 x.c, .int .i64 x.d, .int .i64 x.co, .int .i64 x.fl, .int .i64 x.dy, .int .i64 x.va, .int .i64 x.st, .int .i64 x.ho, .int .u64 x.nx]] W fun e w' => e = .returned (.bool false) ∧ Below W.heap.size W w') := Lib.hid (fun W => by rw [← mx]; exact rLmay_any x.f x.t x.n x.a x.k x.tk x.c x.d x.co x.fl x.dy x.va x.st x.ho x.nx hx.tk hx.n hx.a W)
  have HLM : Hid (∀ W : World, Calls Tryd.prog 17 #[.agg #[.int .i64 x.f, .int .i64 x.t, .int .u64 x.n, .int .u64 x.a, .int .i64 x.k, .int .u64 x.tk, .int .i64 x.c, .int .i64 x.d, .int .i64 x.co, .int .i64 x.fl, .int .i64 x.dy, .int .i64 x.va, .int .i64 x.st, .int .i64 x.ho, .int .u64 x.nx]] W fun e w' => e = .returned (.bool false) ∧ Below W.heap.size W w') := Lib.hid (fun W => by rw [← mx]; exact lmay_any x.f x.t x.n x.a x.k x.tk x.c x.d x.co x.fl x.dy x.va x.st x.ho x.nx hx.tk hx.va hx.n hx.a W)
  have HBY := Lib.hid (fun W => lBytes_no x hx mx W)
  have HTE : Hid (textLt x = []) := Lib.hid (by unfold textLt; rw [if_pos mx])
  have HTX : Hid (∀ W : World, Tab W → Calls Tryd.prog 16 #[.agg #[.int .i64 x.f, .int .i64 x.t, .int .u64 x.n, .int .u64 x.a, .int .i64 x.k, .int .u64 x.tk, .int .i64 x.c, .int .i64 x.d, .int .i64 x.co, .int .i64 x.fl, .int .i64 x.dy, .int .i64 x.va, .int .i64 x.st, .int .i64 x.ho, .int .u64 x.nx]] W fun e w' => e = .returned (.string ⟨(textLt x).toArray⟩) ∧ Below W.heap.size W w') := Lib.hid (fun W hW => lText_any x hx W hW)
  rw [HTE.out] at HTX
  have HB := Lib.hid ((Below.refl w.heap.size w).alloc (Nat.le_refl _) (.cells #[.int .i64 x.f, .int .i64 x.t, .int .u64 x.n, .int .u64 x.a, .int .i64 x.k, .int .u64 x.tk, .int .i64 x.c, .int .i64 x.d, .int .i64 x.co, .int .i64 x.fl, .int .i64 x.dy, .int .i64 x.va, .int .i64 x.st, .int .i64 x.ho, .int .u64 x.nx] 31))
  have HRX := Lib.hid (new_rowW w (.cells #[.int .i64 x.f, .int .i64 x.t, .int .u64 x.n, .int .u64 x.a, .int .i64 x.k, .int .u64 x.tk, .int .i64 x.c, .int .i64 x.d, .int .i64 x.co, .int .i64 x.fl, .int .i64 x.dy, .int .i64 x.va, .int .i64 x.st, .int .i64 x.ho, .int .u64 x.nx] 31) _ rfl)
  clear htab mx hx
  go_enter Tryd.func5, Tryd.ntmps5
  obtain ⟨f1, f2⟩ := row_loT 15 HRX.out rfl rfl
  go_wp2_with fail
  clear f1 f2
  refine (HBY.out _).mono ?_
  rintro e w1 ⟨rfl, hb⟩
  replace HB := Lib.hid (HB.out.trans (hb.mono HB.out.size))
  replace HRX := Lib.hid ((hb.block _ (block_lt HRX.out)).trans HRX.out)
  clear hb
  obtain ⟨f1, f2⟩ := row_loT 15 HRX.out rfl rfl
  go_wp2_with fail
  clear f1 f2
  refine (HTX.out _ (HT.out.below HB.out)).mono ?_
  rintro e w2 ⟨rfl, hb⟩
  replace HB := Lib.hid (HB.out.trans (hb.mono HB.out.size))
  replace HRX := Lib.hid ((hb.block _ (block_lt HRX.out)).trans HRX.out)
  clear hb
  obtain ⟨f1, f2⟩ := row_loT 15 HRX.out rfl rfl
  go_wp2_with fail
  clear f1 f2
  refine (HRM.out _).mono ?_
  rintro e w3 ⟨rfl, hb⟩
  replace HB := Lib.hid (HB.out.trans (hb.mono HB.out.size))
  replace HRX := Lib.hid ((hb.block _ (block_lt HRX.out)).trans HRX.out)
  clear hb
  obtain ⟨f1, f2⟩ := row_loT 15 HRX.out rfl rfl
  go_wp2_with fail
  clear f1 f2
  refine (HLM.out _).mono ?_
  rintro e w4 ⟨rfl, hb⟩
  replace HB := Lib.hid (HB.out.trans (hb.mono HB.out.size))
  replace HRX := Lib.hid ((hb.block _ (block_lt HRX.out)).trans HRX.out)
  clear hb
  go_wp2_with fail
  refine (known20_any _ (HT.out.below HB.out)).mono ?_
  rintro e w5 ⟨rfl, hb⟩
  replace HB := Lib.hid (HB.out.trans (hb.mono HB.out.size))
  clear hb
  go_wp2
  go_ret
  exact ⟨rfl, HB.out⟩
set_option maxRecDepth 8000 in
set_option maxHeartbeats 8000000 in
theorem walkY (x : Lt) (hx : x.wf) (w : World) (htab : Tab w) (mx : x.may = true) : Calls Tryd.prog 5 #[.agg #[.int .i64 x.f, .int .i64 x.t, .int .u64 x.n, .int .u64 x.a, .int .i64 x.k, .int .u64 x.tk, .int .i64 x.c, .int .i64 x.d, .int .i64 x.co, .int .i64 x.fl, .int .i64 x.dy, .int .i64 x.va, .int .i64 x.st, .int .i64 x.ho, .int .u64 x.nx]] w fun e w' => e = .returned (.bool true) ∧ Below w.heap.size w w' := by
  have HT := Lib.hid htab
  have HRM : Hid (∀ W : World, Calls Tryd.prog 10 #[.agg #[.int .i64 x.f, .int .i64 x.t, .int .u64 x.n, .int .u64 x.a, .int .i64 x.k, .int .u64 x.tk, .int .i64 x.c, .int .i64 x.d, .int .i64 x.co, .int .i64 x.fl, .int .i64 x.dy, .int .i64 x.va, .int .i64 x.st, .int .i64 x.ho, .int .u64 x.nx]] W fun e w' => e = .returned (.bool true) ∧ Below W.heap.size W w') := Lib.hid (fun W => by rw [← mx]; exact rLmay_any x.f x.t x.n x.a x.k x.tk x.c x.d x.co x.fl x.dy x.va x.st x.ho x.nx hx.tk hx.n hx.a W)
  have HLM : Hid (∀ W : World, Calls Tryd.prog 17 #[.agg #[.int .i64 x.f, .int .i64 x.t, .int .u64 x.n, .int .u64 x.a, .int .i64 x.k, .int .u64 x.tk, .int .i64 x.c, .int .i64 x.d, .int .i64 x.co, .int .i64 x.fl, .int .i64 x.dy, .int .i64 x.va, .int .i64 x.st, .int .i64 x.ho, .int .u64 x.nx]] W fun e w' => e = .returned (.bool true) ∧ Below W.heap.size W w') := Lib.hid (fun W => by rw [← mx]; exact lmay_any x.f x.t x.n x.a x.k x.tk x.c x.d x.co x.fl x.dy x.va x.st x.ho x.nx hx.tk hx.va hx.n hx.a W)
  have HBY : Hid (∀ W : World, Calls Tryd.prog 15 #[.agg #[.int .i64 x.f, .int .i64 x.t, .int .u64 x.n, .int .u64 x.a, .int .i64 x.k, .int .u64 x.tk, .int .i64 x.c, .int .i64 x.d, .int .i64 x.co, .int .i64 x.fl, .int .i64 x.dy, .int .i64 x.va, .int .i64 x.st, .int .i64 x.ho, .int .u64 x.nx]] W fun e w' => ∃ q c, e = .returned (.tuple #[.slice q (encLt x).length c, .int .i64 0]) ∧ BS w' (.slice q (encLt x).length c) (encLt x) ∧ Below W.heap.size W w') := Lib.hid (fun W => (lBytes_yes x hx mx W).mono fun e w' ⟨v, he, ho, hb⟩ => by obtain ⟨q, c, rfl⟩ := own_form20 ho; exact ⟨q, c, he, BS.of_own ho, hb⟩)
  have HRB := Lib.hid (fun W => rBytes20_any x hx mx W)
  have HRT := Lib.hid (fun W => rText20_any x hx mx W)
  have HLE : (encLt x).length ≤ 1073741824 := by
    have h1 := encM_len x.ml
    have h2 : (encLt x).length ≤ 48 := by
      unfold encLt encLh
      split <;> simp only [List.length_append, Wire.be_length] <;> omega
    omega
  have HOF : Hid (∀ W v, BS W v (encLt x) → Calls Tryd.prog 18 #[v] W fun e w' => e = .returned (.tuple #[.agg #[.int .i64 x.f, .int .i64 x.t, .int .u64 x.n, .int .u64 x.a, .int .i64 x.k, .int .u64 x.tk, .int .i64 x.c, .int .i64 x.d, .int .i64 x.co, .int .i64 x.fl, .int .i64 x.dy, .int .i64 x.va, .int .i64 x.st, .int .i64 x.ho, .int .u64 x.nx], .int .i64 0]) ∧ Below W.heap.size W w') := Lib.hid (fun W v hv => by
    have h := lOf_any v (encLt x) HLE W hv
    have h2 := lGet_enc hx mx
    unfold lOf at h
    rw [h2.1, if_pos rfl, if_pos rfl, h2.2] at h
    exact h)
  clear HLE
  have hE : ∀ W : World, (binOp .eql 31 (.agg #[.int .i64 x.f, .int .i64 x.t, .int .u64 x.n, .int .u64 x.a, .int .i64 x.k, .int .u64 x.tk, .int .i64 x.c, .int .i64 x.d, .int .i64 x.co, .int .i64 x.fl, .int .i64 x.dy, .int .i64 x.va, .int .i64 x.st, .int .i64 x.ho, .int .u64 x.nx]) (.agg #[.int .i64 x.f, .int .i64 x.t, .int .u64 x.n, .int .u64 x.a, .int .i64 x.k, .int .u64 x.tk, .int .i64 x.c, .int .i64 x.d, .int .i64 x.co, .int .i64 x.fl, .int .i64 x.dy, .int .i64 x.va, .int .i64 x.st, .int .i64 x.ho, .int .u64 x.nx])).run Tryd.prog W = .ok (.bool true) W := fun W => by
    have h := eqL x x W
    rw [(Lt.eq_iff x x).2 rfl] at h
    exact h
  have hG := guardL
  have HTX : Hid (∀ W : World, Tab W → Calls Tryd.prog 16 #[.agg #[.int .i64 x.f, .int .i64 x.t, .int .u64 x.n, .int .u64 x.a, .int .i64 x.k, .int .u64 x.tk, .int .i64 x.c, .int .i64 x.d, .int .i64 x.co, .int .i64 x.fl, .int .i64 x.dy, .int .i64 x.va, .int .i64 x.st, .int .i64 x.ho, .int .u64 x.nx]] W fun e w' => e = .returned (.string ⟨(textLt x).toArray⟩) ∧ Below W.heap.size W w') := Lib.hid (fun W hW => lText_any x hx W hW)
  have HB := Lib.hid ((Below.refl w.heap.size w).alloc (Nat.le_refl _) (.cells #[.int .i64 x.f, .int .i64 x.t, .int .u64 x.n, .int .u64 x.a, .int .i64 x.k, .int .u64 x.tk, .int .i64 x.c, .int .i64 x.d, .int .i64 x.co, .int .i64 x.fl, .int .i64 x.dy, .int .i64 x.va, .int .i64 x.st, .int .i64 x.ho, .int .u64 x.nx] 31))
  have HRX := Lib.hid (new_rowW w (.cells #[.int .i64 x.f, .int .i64 x.t, .int .u64 x.n, .int .u64 x.a, .int .i64 x.k, .int .u64 x.tk, .int .i64 x.c, .int .i64 x.d, .int .i64 x.co, .int .i64 x.fl, .int .i64 x.dy, .int .i64 x.va, .int .i64 x.st, .int .i64 x.ho, .int .u64 x.nx] 31) _ rfl)
  clear htab mx hx
  obtain ⟨S, hS⟩ : ∃ S : ByteArray, ⟨(encLt x).toArray⟩ = S := ⟨_, rfl⟩
  have HS := Lib.hid hS
  clear hS
  have HSV : Hid (∀ W v, BS W v (encLt x) → (convert 38 9 v).run Tryd.prog W = .ok (.string S) W) := Lib.hid (fun W v hv => by rw [← HS.out]; exact hv.to_string)
  generalize (⟨(textLt x).toArray⟩ : ByteArray) = TX at *
  go_enter Tryd.func5, Tryd.ntmps5
  obtain ⟨f1, f2⟩ := row_loT 15 HRX.out rfl rfl
  go_wp2_with fail
  clear f1 f2
  refine (HBY.out _).mono ?_
  rintro e w1 ⟨qb, cb, rfl, hbs, hb⟩
  have HOB := Lib.hid hbs
  clear hbs
  replace HB := Lib.hid (HB.out.trans (hb.mono HB.out.size))
  replace HRX := Lib.hid ((hb.block _ (block_lt HRX.out)).trans HRX.out)
  clear hb
  obtain ⟨f1, f2⟩ := row_loT 15 HRX.out rfl rfl
  go_wp2_with fail
  clear f1 f2
  refine (HTX.out _ (HT.out.below HB.out)).mono ?_
  rintro e w2 ⟨rfl, hb⟩
  replace HB := Lib.hid (HB.out.trans (hb.mono HB.out.size))
  replace HRX := Lib.hid ((hb.block _ (block_lt HRX.out)).trans HRX.out)
  replace HOB := Lib.hid (HOB.out.below hb)
  clear hb
  obtain ⟨f1, f2⟩ := row_loT 15 HRX.out rfl rfl
  go_wp2_with fail
  clear f1 f2
  refine (HRM.out _).mono ?_
  rintro e w3 ⟨rfl, hb⟩
  replace HB := Lib.hid (HB.out.trans (hb.mono HB.out.size))
  replace HRX := Lib.hid ((hb.block _ (block_lt HRX.out)).trans HRX.out)
  replace HOB := Lib.hid (HOB.out.below hb)
  clear hb
  obtain ⟨f1, f2⟩ := row_loT 15 HRX.out rfl rfl
  go_wp2_with fail
  clear f1 f2
  refine (HLM.out _).mono ?_
  rintro e w4 ⟨rfl, hb⟩
  replace HB := Lib.hid (HB.out.trans (hb.mono HB.out.size))
  replace HRX := Lib.hid ((hb.block _ (block_lt HRX.out)).trans HRX.out)
  replace HOB := Lib.hid (HOB.out.below hb)
  clear hb
  go_wp2_with fail
  refine (HOF.out _ _ HOB.out).mono ?_
  rintro e w5 ⟨rfl, hb⟩
  replace HB := Lib.hid (HB.out.trans (hb.mono HB.out.size))
  replace HRX := Lib.hid ((hb.block _ (block_lt HRX.out)).trans HRX.out)
  replace HOB := Lib.hid (HOB.out.below hb)
  clear hb
  go_upto_region 9 with fail
  have hb := (Below.refl w5.heap.size w5).alloc (Nat.le_refl _) (.cells #[.int .i64 x.f, .int .i64 x.t, .int .u64 x.n, .int .u64 x.a, .int .i64 x.k, .int .u64 x.tk, .int .i64 x.c, .int .i64 x.d, .int .i64 x.co, .int .i64 x.fl, .int .i64 x.dy, .int .i64 x.va, .int .i64 x.st, .int .i64 x.ho, .int .u64 x.nx] 31)
  have HR8 := Lib.hid (new_rowW w5 (.cells #[.int .i64 x.f, .int .i64 x.t, .int .u64 x.n, .int .u64 x.a, .int .i64 x.k, .int .u64 x.tk, .int .i64 x.c, .int .i64 x.d, .int .i64 x.co, .int .i64 x.fl, .int .i64 x.dy, .int .i64 x.va, .int .i64 x.st, .int .i64 x.ho, .int .u64 x.nx] 31) _ rfl)
  replace HB := Lib.hid (HB.out.trans (hb.mono HB.out.size))
  replace HRX := Lib.hid ((hb.block _ (block_lt HRX.out)).trans HRX.out)
  replace HOB := Lib.hid (HOB.out.below hb)
  clear hb
  generalize w5.alloc (.cells #[.int .i64 x.f, .int .i64 x.t, .int .u64 x.n, .int .u64 x.a, .int .i64 x.k, .int .u64 x.tk, .int .i64 x.c, .int .i64 x.d, .int .i64 x.co, .int .i64 x.fl, .int .i64 x.dy, .int .i64 x.va, .int .i64 x.st, .int .i64 x.ho, .int .u64 x.nx] 31) = w6 at *
  generalize w5.heap.size = g8 at *
  refine wp_region_G (C := fun W => ((loL 15 W w.heap.size 0 = [.int .i64 x.f, .int .i64 x.t, .int .u64 x.n, .int .u64 x.a, .int .i64 x.k, .int .u64 x.tk, .int .i64 x.c, .int .i64 x.d, .int .i64 x.co, .int .i64 x.fl, .int .i64 x.dy, .int .i64 x.va, .int .i64 x.st, .int .i64 x.ho, .int .u64 x.nx] ∧ okL 15 W w.heap.size 0) ∧ (loL 15 W g8 0 = [.int .i64 x.f, .int .i64 x.t, .int .u64 x.n, .int .u64 x.a, .int .i64 x.k, .int .u64 x.tk, .int .i64 x.c, .int .i64 x.d, .int .i64 x.co, .int .i64 x.fl, .int .i64 x.dy, .int .i64 x.va, .int .i64 x.st, .int .i64 x.ho, .int .u64 x.nx] ∧ okL 15 W g8 0)) ∧ (convert 38 9 (.slice qb (encLt x).length cb)).run Tryd.prog W = .ok (.string S) W) (s0 := 28) (by kernel_rfl) ?_
  have hb := (Below.refl w6.heap.size w6).drew
  replace HB := Lib.hid (HB.out.trans (hb.mono HB.out.size))
  replace HRX := Lib.hid ((hb.block _ (block_lt HRX.out)).trans HRX.out)
  replace HR8 := Lib.hid ((hb.block _ (block_lt HR8.out)).trans HR8.out)
  replace HOB := Lib.hid (HOB.out.below hb)
  clear hb
  generalize w6.drew = wd at *
  have hHeld := (show ((loL 15 wd w.heap.size 0 = [.int .i64 x.f, .int .i64 x.t, .int .u64 x.n, .int .u64 x.a, .int .i64 x.k, .int .u64 x.tk, .int .i64 x.c, .int .i64 x.d, .int .i64 x.co, .int .i64 x.fl, .int .i64 x.dy, .int .i64 x.va, .int .i64 x.st, .int .i64 x.ho, .int .u64 x.nx] ∧ okL 15 wd w.heap.size 0) ∧ (loL 15 wd g8 0 = [.int .i64 x.f, .int .i64 x.t, .int .u64 x.n, .int .u64 x.a, .int .i64 x.k, .int .u64 x.tk, .int .i64 x.c, .int .i64 x.d, .int .i64 x.co, .int .i64 x.fl, .int .i64 x.dy, .int .i64 x.va, .int .i64 x.st, .int .i64 x.ho, .int .u64 x.nx] ∧ okL 15 wd g8 0)) ∧ (convert 38 9 (.slice qb (encLt x).length cb)).run Tryd.prog wd = .ok (.string S) wd from ⟨⟨row_loT 15 HRX.out rfl rfl, row_loT 15 HR8.out rfl rfl⟩, HSV.out _ _ HOB.out⟩)
  refine wpAnyG_takeU (i := 0) (oi := { dst := some 43, op := Op.move (Operand.tmp 4), type := 24, pos := "law.go:33", after := #[], guard := none }) (v := ?_) rfl (by kernel_rfl) (by kernel_rfl) (by kernel_rfl) (by decide) (fun _ _ _ h => h) (Or.inl ⟨by rfl, ?_⟩) (.inl (by assumption)) ?_
  rotate_left
  · intro w hSw; go_simp; try with_reducible rfl
  try simp only [Act.put, List.setIfInBounds_toArray, List.set_cons_zero, List.set_cons_succ]
  refine wpAnyG_takeU (i := 1) (oi := { dst := some 44, op := Op.binOp BinOp.eql 24 (Operand.tmp 43) (Operand.const (Value.int IntKind.i64 0)) 24, type := 4, pos := "law.go:33", after := #[{ on := 0, ground := Ground.data }], guard := none }) (v := ?_) rfl (by kernel_rfl) (by kernel_rfl) (by kernel_rfl) (by decide) (fun _ _ _ h => h) (Or.inl ⟨by rfl, ?_⟩) (.inl (by assumption)) ?_
  rotate_left
  · intro w hSw; go_simp; try with_reducible rfl
  try simp only [Act.put, List.setIfInBounds_toArray, List.set_cons_zero, List.set_cons_succ]
  refine wpAnyG_takeU (i := 2) (oi := { dst := some 45, op := Op.move (Operand.tmp 44), type := 4, pos := "law.go:33", after := #[{ on := 1, ground := Ground.data }], guard := none }) (v := ?_) rfl (by kernel_rfl) (by kernel_rfl) (by kernel_rfl) (by decide) (fun _ _ _ h => h) (Or.inl ⟨by rfl, ?_⟩) (.inl (by assumption)) ?_
  rotate_left
  · intro w hSw; go_simp; try with_reducible rfl
  try simp only [Act.put, List.setIfInBounds_toArray, List.set_cons_zero, List.set_cons_succ]
  refine wpAnyG_takeU (i := 3) (oi := { dst := some 46, op := Op.move (Operand.tmp 8), type := 24, pos := "law.go:33", after := #[{ on := 2, ground := Ground.guard }], guard := some (2, true) }) (v := ?_) rfl (by kernel_rfl) (by kernel_rfl) (by kernel_rfl) (by decide) (fun _ _ _ h => h) (Or.inl ⟨by rfl, ?_⟩) (.inl (by assumption)) ?_
  rotate_left
  · intro w hSw; go_simp; try with_reducible rfl
  try simp only [Act.put, List.setIfInBounds_toArray, List.set_cons_zero, List.set_cons_succ]
  refine wpAnyG_takeU (i := 4) (oi := { dst := some 47, op := Op.binOp BinOp.eql 24 (Operand.tmp 46) (Operand.const (Value.int IntKind.i64 0)) 24, type := 4, pos := "law.go:33", after := #[{ on := 3, ground := Ground.data }, { on := 2, ground := Ground.guard }], guard := some (2, true) }) (v := ?_) rfl (by kernel_rfl) (by kernel_rfl) (by kernel_rfl) (by decide) (fun _ _ _ h => h) (Or.inl ⟨by rfl, ?_⟩) (.inl (by assumption)) ?_
  rotate_left
  · intro w hSw; go_simp; try with_reducible rfl
  try simp only [Act.put, List.setIfInBounds_toArray, List.set_cons_zero, List.set_cons_succ]
  refine wpAnyG_takeU (i := 5) (oi := { dst := some 48, op := Op.pick (Operand.tmp 45) (Operand.tmp 47) (Operand.const (Value.bool false)), type := 4, pos := "law.go:33", after := #[{ on := 2, ground := Ground.data }, { on := 4, ground := Ground.data }], guard := none }) (v := ?_) rfl (by kernel_rfl) (by kernel_rfl) (by kernel_rfl) (by decide) (fun _ _ _ h => h) (Or.inl ⟨by rfl, ?_⟩) (.inl (by assumption)) ?_
  rotate_left
  · intro w hSw; go_simp; try with_reducible rfl
  try simp only [Act.put, List.setIfInBounds_toArray, List.set_cons_zero, List.set_cons_succ]
  refine wpAnyG_takeU (i := 6) (oi := { dst := some 49, op := Op.move (Operand.tmp 48), type := 4, pos := "law.go:33", after := #[{ on := 5, ground := Ground.data }, { on := 2, ground := Ground.chain }], guard := none }) (v := ?_) rfl (by kernel_rfl) (by kernel_rfl) (by kernel_rfl) (by decide) (fun _ _ _ h => h) (Or.inl ⟨by rfl, ?_⟩) (.inl (by assumption)) ?_
  rotate_left
  · intro w hSw; go_simp; try with_reducible rfl
  try simp only [Act.put, List.setIfInBounds_toArray, List.set_cons_zero, List.set_cons_succ]
  refine wpAnyG_takeM (i := 7) (oi := { dst := some 50, op := Op.load 31 (Operand.tmp 7), type := 31, pos := "law.go:33", after := #[{ on := 6, ground := Ground.guard }], guard := some (6, true) }) (v := ?_) (ms := [9, 10, 11, 12, 13, 14, 15, 16, 17, 18, 19, 20, 21, 22, 23, 24, 25, 26, 27, 28]) rfl (by kernel_rfl) (by kernel_rfl) (by kernel_rfl) (by kernel_rfl) (by kernel_rfl) (fun _ _ _ h => h) (Or.inl ⟨by rfl, ?_⟩) (by assumption) ?_
  rotate_left
  · intro w hSw; (try dsimp only at hSw); go_simp; try with_reducible rfl
  try simp only [Act.put, List.setIfInBounds_toArray, List.set_cons_zero, List.set_cons_succ]
  refine wpAnyG_takeM (i := 8) (oi := { dst := some 51, op := Op.load 31 (Operand.tmp 1), type := 31, pos := "law.go:33", after := #[{ on := 6, ground := Ground.guard }], guard := some (6, true) }) (v := ?_) (ms := [9, 10, 11, 12, 13, 14, 15, 16, 17, 18, 19, 20, 21, 22, 23, 24, 25, 26, 27, 28]) rfl (by kernel_rfl) (by kernel_rfl) (by kernel_rfl) (by kernel_rfl) (by kernel_rfl) (fun _ _ _ h => h) (Or.inl ⟨by rfl, ?_⟩) (by assumption) ?_
  rotate_left
  · intro w hSw; (try dsimp only at hSw); go_simp; try with_reducible rfl
  try simp only [Act.put, List.setIfInBounds_toArray, List.set_cons_zero, List.set_cons_succ]
  refine wpAnyG_takeU (i := 9) (oi := { dst := some 52, op := Op.binOp BinOp.eql 31 (Operand.tmp 50) (Operand.tmp 51) 31, type := 4, pos := "law.go:33", after := #[{ on := 7, ground := Ground.data }, { on := 8, ground := Ground.data }, { on := 6, ground := Ground.guard }], guard := some (6, true) }) (v := ?_) rfl (by kernel_rfl) (by kernel_rfl) (by kernel_rfl) (by decide) (fun _ _ _ h => h) (Or.inl ⟨by rfl, ?_⟩) (.inl (by assumption)) ?_
  rotate_left
  · intro w hSw; go_simp; try with_reducible rfl
  try simp only [Act.put, List.setIfInBounds_toArray, List.set_cons_zero, List.set_cons_succ]
  refine wpAnyG_takeU (i := 10) (oi := { dst := some 53, op := Op.pick (Operand.tmp 49) (Operand.tmp 52) (Operand.const (Value.bool false)), type := 4, pos := "law.go:33", after := #[{ on := 6, ground := Ground.data }, { on := 9, ground := Ground.data }], guard := none }) (v := ?_) rfl (by kernel_rfl) (by kernel_rfl) (by kernel_rfl) (by decide) (fun _ _ _ h => h) (Or.inl ⟨by rfl, ?_⟩) (.inl (by assumption)) ?_
  rotate_left
  · intro w hSw; go_simp; try with_reducible rfl
  try simp only [Act.put, List.setIfInBounds_toArray, List.set_cons_zero, List.set_cons_succ]
  refine wpAnyG_takeU (i := 11) (oi := { dst := some 54, op := Op.move (Operand.tmp 53), type := 4, pos := "law.go:33", after := #[{ on := 10, ground := Ground.data }, { on := 6, ground := Ground.chain }], guard := none }) (v := ?_) rfl (by kernel_rfl) (by kernel_rfl) (by kernel_rfl) (by decide) (fun _ _ _ h => h) (Or.inl ⟨by rfl, ?_⟩) (.inl (by assumption)) ?_
  rotate_left
  · intro w hSw; go_simp; try with_reducible rfl
  try simp only [Act.put, List.setIfInBounds_toArray, List.set_cons_zero, List.set_cons_succ]
  refine wpAnyG_takeU (i := 12) (oi := { dst := some 55, op := Op.move (Operand.tmp 3), type := 38, pos := "law.go:33", after := #[{ on := 11, ground := Ground.guard }], guard := some (11, true) }) (v := ?_) rfl (by kernel_rfl) (by kernel_rfl) (by kernel_rfl) (by decide) (fun _ _ _ h => h) (Or.inl ⟨by rfl, ?_⟩) (.inl (by assumption)) ?_
  rotate_left
  · intro w hSw; go_simp; try with_reducible rfl
  try simp only [Act.put, List.setIfInBounds_toArray, List.set_cons_zero, List.set_cons_succ]
  refine wpAnyG_takeM (i := 13) (oi := { dst := some 56, op := Op.convert 38 9 (Operand.tmp 55), type := 9, pos := "law.go:33", after := #[{ on := 12, ground := Ground.data }, { on := 11, ground := Ground.guard }], guard := some (11, true) }) (v := ?_) (ms := [17, 18, 19, 20, 21, 22, 23, 24, 25, 26, 27, 28]) rfl (by kernel_rfl) (by kernel_rfl) (by kernel_rfl) (by kernel_rfl) (by kernel_rfl) (fun _ _ _ h => h) (Or.inl ⟨by rfl, ?_⟩) (by assumption) ?_
  rotate_left
  · intro w hSw; (try dsimp only at hSw); go_simp; try with_reducible rfl
  try simp only [Act.put, List.setIfInBounds_toArray, List.set_cons_zero, List.set_cons_succ]
  refine wpAnyG_takeM (i := 14) (oi := { dst := some 57, op := Op.load 31 (Operand.tmp 1), type := 31, pos := "law.go:33", after := #[{ on := 11, ground := Ground.guard }], guard := some (11, true) }) (v := ?_) (ms := [15, 16, 17, 18, 19, 20, 21, 22, 23, 24, 25, 26, 27, 28]) rfl (by kernel_rfl) (by kernel_rfl) (by kernel_rfl) (by kernel_rfl) (by kernel_rfl) (fun _ _ _ h => h) (Or.inl ⟨by rfl, ?_⟩) (by assumption) ?_
  rotate_left
  · intro w hSw; (try dsimp only at hSw); go_simp; try with_reducible rfl
  try simp only [Act.put, List.setIfInBounds_toArray, List.set_cons_zero, List.set_cons_succ]
  refine wpAnyG_one (i := 15) (o := { dst := some 58, op := Op.call { callee := Callee.value (Operand.func 19), args := #[Operand.tmp 57], argTypes := #[31] }, type := 38, pos := "law.go:33", after := #[{ on := 14, ground := Ground.data }, { on := 11, ground := Ground.chain }, { on := 11, ground := Ground.guard }], guard := some (11, true) }) (by kernel_rfl) rfl (fun K hK => ?_)
  go_simp
  go_at_call 19
  refine (HRB.out _).mono ?_
  rintro e wn ⟨v2, rfl, ho2, hb⟩
  have HO2 := Lib.hid (BS.of_own ho2)
  clear ho2 hHeld
  replace HB := Lib.hid (HB.out.trans (hb.mono HB.out.size))
  replace HRX := Lib.hid ((hb.block _ (block_lt HRX.out)).trans HRX.out)
  replace HR8 := Lib.hid ((hb.block _ (block_lt HR8.out)).trans HR8.out)
  replace HOB := Lib.hid (HOB.out.below hb)
  clear hb
  have hHeld := (show ((loL 15 wn w.heap.size 0 = [.int .i64 x.f, .int .i64 x.t, .int .u64 x.n, .int .u64 x.a, .int .i64 x.k, .int .u64 x.tk, .int .i64 x.c, .int .i64 x.d, .int .i64 x.co, .int .i64 x.fl, .int .i64 x.dy, .int .i64 x.va, .int .i64 x.st, .int .i64 x.ho, .int .u64 x.nx] ∧ okL 15 wn w.heap.size 0) ∧ (loL 15 wn g8 0 = [.int .i64 x.f, .int .i64 x.t, .int .u64 x.n, .int .u64 x.a, .int .i64 x.k, .int .u64 x.tk, .int .i64 x.c, .int .i64 x.d, .int .i64 x.co, .int .i64 x.fl, .int .i64 x.dy, .int .i64 x.va, .int .i64 x.st, .int .i64 x.ho, .int .u64 x.nx] ∧ okL 15 wn g8 0)) ∧ (convert 38 9 (.slice qb (encLt x).length cb)).run Tryd.prog wn = .ok (.string S) wn from ⟨⟨row_loT 15 HRX.out rfl rfl, row_loT 15 HR8.out rfl rfl⟩, HSV.out _ _ HOB.out⟩)
  refine hK.out _ _ (.inl hHeld) ?_
  clear hK K
  try simp only [Act.put, List.setIfInBounds_toArray, List.set_cons_zero, List.set_cons_succ]
  refine wpAnyG_one (i := 16) (o := { dst := some 59, op := Op.convert 38 9 (Operand.tmp 58), type := 9, pos := "law.go:33", after := #[{ on := 15, ground := Ground.data }, { on := 11, ground := Ground.guard }], guard := some (11, true) }) (by kernel_rfl) rfl (fun K hK => ?_)
  have hcv := HSV.out _ _ HO2.out
  go_simp
  refine hK.out _ _ (.inl hHeld) ?_
  clear hK K
  try simp only [Act.put, List.setIfInBounds_toArray, List.set_cons_zero, List.set_cons_succ]
  clear hcv
  refine wpAnyG_takeU (i := 17) (oi := { dst := some 60, op := Op.binOp BinOp.eql 9 (Operand.tmp 56) (Operand.tmp 59) 9, type := 4, pos := "law.go:33", after := #[{ on := 13, ground := Ground.data }, { on := 16, ground := Ground.data }, { on := 11, ground := Ground.guard }], guard := some (11, true) }) (v := ?_) rfl (by kernel_rfl) (by kernel_rfl) (by kernel_rfl) (by decide) (fun _ _ _ h => h) (Or.inl ⟨by rfl, ?_⟩) (.inl (by assumption)) ?_
  rotate_left
  · intro w hSw; go_simp; try with_reducible rfl
  try simp only [Act.put, List.setIfInBounds_toArray, List.set_cons_zero, List.set_cons_succ]
  refine wpAnyG_takeU (i := 18) (oi := { dst := some 61, op := Op.pick (Operand.tmp 54) (Operand.tmp 60) (Operand.const (Value.bool false)), type := 4, pos := "law.go:33", after := #[{ on := 11, ground := Ground.data }, { on := 17, ground := Ground.data }], guard := none }) (v := ?_) rfl (by kernel_rfl) (by kernel_rfl) (by kernel_rfl) (by decide) (fun _ _ _ h => h) (Or.inl ⟨by rfl, ?_⟩) (.inl (by assumption)) ?_
  rotate_left
  · intro w hSw; go_simp; try with_reducible rfl
  try simp only [Act.put, List.setIfInBounds_toArray, List.set_cons_zero, List.set_cons_succ]
  refine wpAnyG_takeU (i := 19) (oi := { dst := some 62, op := Op.move (Operand.tmp 61), type := 4, pos := "law.go:33", after := #[{ on := 18, ground := Ground.data }, { on := 15, ground := Ground.chain }], guard := none }) (v := ?_) rfl (by kernel_rfl) (by kernel_rfl) (by kernel_rfl) (by decide) (fun _ _ _ h => h) (Or.inl ⟨by rfl, ?_⟩) (.inl (by assumption)) ?_
  rotate_left
  · intro w hSw; go_simp; try with_reducible rfl
  try simp only [Act.put, List.setIfInBounds_toArray, List.set_cons_zero, List.set_cons_succ]
  refine wpAnyG_takeU (i := 20) (oi := { dst := some 63, op := Op.move (Operand.tmp 5), type := 9, pos := "law.go:33", after := #[{ on := 19, ground := Ground.guard }], guard := some (19, true) }) (v := ?_) rfl (by kernel_rfl) (by kernel_rfl) (by kernel_rfl) (by decide) (fun _ _ _ h => h) (Or.inl ⟨by rfl, ?_⟩) (.inl (by assumption)) ?_
  rotate_left
  · intro w hSw; go_simp; try with_reducible rfl
  try simp only [Act.put, List.setIfInBounds_toArray, List.set_cons_zero, List.set_cons_succ]
  refine wpAnyG_takeM (i := 21) (oi := { dst := some 64, op := Op.load 31 (Operand.tmp 1), type := 31, pos := "law.go:33", after := #[{ on := 19, ground := Ground.guard }], guard := some (19, true) }) (v := ?_) (ms := [22, 23, 24, 25, 26, 27, 28]) rfl (by kernel_rfl) (by kernel_rfl) (by kernel_rfl) (by kernel_rfl) (by kernel_rfl) (fun _ _ _ h => h) (Or.inl ⟨by rfl, ?_⟩) (by assumption) ?_
  rotate_left
  · intro w hSw; (try dsimp only at hSw); go_simp; try with_reducible rfl
  try simp only [Act.put, List.setIfInBounds_toArray, List.set_cons_zero, List.set_cons_succ]
  refine wpAnyG_one (i := 22) (o := { dst := some 65, op := Op.call { callee := Callee.value (Operand.func 20), args := #[Operand.tmp 64], argTypes := #[31] }, type := 9, pos := "law.go:33", after := #[{ on := 21, ground := Ground.data }, { on := 19, ground := Ground.chain }, { on := 19, ground := Ground.guard }], guard := some (19, true) }) (by kernel_rfl) rfl (fun K hK => ?_)
  go_simp
  go_at_call 20
  refine (HRT.out _).mono ?_
  rintro e wp ⟨rfl, hb⟩
  clear hHeld
  replace HB := Lib.hid (HB.out.trans (hb.mono HB.out.size))
  replace HRX := Lib.hid ((hb.block _ (block_lt HRX.out)).trans HRX.out)
  replace HR8 := Lib.hid ((hb.block _ (block_lt HR8.out)).trans HR8.out)
  replace HOB := Lib.hid (HOB.out.below hb)
  clear hb
  have hHeld := (show ((loL 15 wp w.heap.size 0 = [.int .i64 x.f, .int .i64 x.t, .int .u64 x.n, .int .u64 x.a, .int .i64 x.k, .int .u64 x.tk, .int .i64 x.c, .int .i64 x.d, .int .i64 x.co, .int .i64 x.fl, .int .i64 x.dy, .int .i64 x.va, .int .i64 x.st, .int .i64 x.ho, .int .u64 x.nx] ∧ okL 15 wp w.heap.size 0) ∧ (loL 15 wp g8 0 = [.int .i64 x.f, .int .i64 x.t, .int .u64 x.n, .int .u64 x.a, .int .i64 x.k, .int .u64 x.tk, .int .i64 x.c, .int .i64 x.d, .int .i64 x.co, .int .i64 x.fl, .int .i64 x.dy, .int .i64 x.va, .int .i64 x.st, .int .i64 x.ho, .int .u64 x.nx] ∧ okL 15 wp g8 0)) ∧ (convert 38 9 (.slice qb (encLt x).length cb)).run Tryd.prog wp = .ok (.string S) wp from ⟨⟨row_loT 15 HRX.out rfl rfl, row_loT 15 HR8.out rfl rfl⟩, HSV.out _ _ HOB.out⟩)
  refine hK.out _ _ (.inl hHeld) ?_
  clear hK K
  try simp only [Act.put, List.setIfInBounds_toArray, List.set_cons_zero, List.set_cons_succ]
  refine wpAnyG_takeU (i := 23) (oi := { dst := some 66, op := Op.binOp BinOp.eql 9 (Operand.tmp 63) (Operand.tmp 65) 9, type := 4, pos := "law.go:33", after := #[{ on := 20, ground := Ground.data }, { on := 22, ground := Ground.data }, { on := 19, ground := Ground.guard }], guard := some (19, true) }) (v := ?_) rfl (by kernel_rfl) (by kernel_rfl) (by kernel_rfl) (by decide) (fun _ _ _ h => h) (Or.inl ⟨by rfl, ?_⟩) (.inl (by assumption)) ?_
  rotate_left
  · intro w hSw; go_simp; try with_reducible rfl
  try simp only [Act.put, List.setIfInBounds_toArray, List.set_cons_zero, List.set_cons_succ]
  refine wpAnyG_takeU (i := 24) (oi := { dst := some 67, op := Op.pick (Operand.tmp 62) (Operand.tmp 66) (Operand.const (Value.bool false)), type := 4, pos := "law.go:33", after := #[{ on := 19, ground := Ground.data }, { on := 23, ground := Ground.data }], guard := none }) (v := ?_) rfl (by kernel_rfl) (by kernel_rfl) (by kernel_rfl) (by decide) (fun _ _ _ h => h) (Or.inl ⟨by rfl, ?_⟩) (.inl (by assumption)) ?_
  rotate_left
  · intro w hSw; go_simp; try with_reducible rfl
  try simp only [Act.put, List.setIfInBounds_toArray, List.set_cons_zero, List.set_cons_succ]
  refine wpAnyG_takeU (i := 25) (oi := { dst := some 68, op := Op.move (Operand.tmp 67), type := 4, pos := "law.go:33", after := #[{ on := 24, ground := Ground.data }, { on := 22, ground := Ground.chain }], guard := none }) (v := ?_) rfl (by kernel_rfl) (by kernel_rfl) (by kernel_rfl) (by decide) (fun _ _ _ h => h) (Or.inl ⟨by rfl, ?_⟩) (.inl (by assumption)) ?_
  rotate_left
  · intro w hSw; go_simp; try with_reducible rfl
  try simp only [Act.put, List.setIfInBounds_toArray, List.set_cons_zero, List.set_cons_succ]
  refine wpAnyG_one (i := 26) (o := { dst := some 69, op := Op.call { callee := Callee.value (Operand.func 13), args := #[], argTypes := #[] }, type := 4, pos := "law.go:33", after := #[{ on := 25, ground := Ground.chain }, { on := 25, ground := Ground.guard }], guard := some (25, true) }) (by kernel_rfl) rfl (fun K hK => ?_)
  go_simp
  go_at_call 13
  refine (known20_any _ (HT.out.below HB.out)).mono ?_
  rintro e wq ⟨rfl, hb⟩
  clear hHeld
  replace HB := Lib.hid (HB.out.trans (hb.mono HB.out.size))
  replace HRX := Lib.hid ((hb.block _ (block_lt HRX.out)).trans HRX.out)
  replace HR8 := Lib.hid ((hb.block _ (block_lt HR8.out)).trans HR8.out)
  replace HOB := Lib.hid (HOB.out.below hb)
  clear hb
  have hHeld := (show ((loL 15 wq w.heap.size 0 = [.int .i64 x.f, .int .i64 x.t, .int .u64 x.n, .int .u64 x.a, .int .i64 x.k, .int .u64 x.tk, .int .i64 x.c, .int .i64 x.d, .int .i64 x.co, .int .i64 x.fl, .int .i64 x.dy, .int .i64 x.va, .int .i64 x.st, .int .i64 x.ho, .int .u64 x.nx] ∧ okL 15 wq w.heap.size 0) ∧ (loL 15 wq g8 0 = [.int .i64 x.f, .int .i64 x.t, .int .u64 x.n, .int .u64 x.a, .int .i64 x.k, .int .u64 x.tk, .int .i64 x.c, .int .i64 x.d, .int .i64 x.co, .int .i64 x.fl, .int .i64 x.dy, .int .i64 x.va, .int .i64 x.st, .int .i64 x.ho, .int .u64 x.nx] ∧ okL 15 wq g8 0)) ∧ (convert 38 9 (.slice qb (encLt x).length cb)).run Tryd.prog wq = .ok (.string S) wq from ⟨⟨row_loT 15 HRX.out rfl rfl, row_loT 15 HR8.out rfl rfl⟩, HSV.out _ _ HOB.out⟩)
  refine hK.out _ _ (.inl hHeld) ?_
  clear hK K
  try simp only [Act.put, List.setIfInBounds_toArray, List.set_cons_zero, List.set_cons_succ]
  refine wpAnyG_takeU (i := 27) (oi := { dst := some 70, op := Op.pick (Operand.tmp 68) (Operand.tmp 69) (Operand.const (Value.bool false)), type := 4, pos := "law.go:33", after := #[{ on := 25, ground := Ground.data }, { on := 26, ground := Ground.data }], guard := none }) (v := ?_) rfl (by kernel_rfl) (by kernel_rfl) (by kernel_rfl) (by decide) (fun _ _ _ h => h) (Or.inl ⟨by rfl, ?_⟩) (.inl (by assumption)) ?_
  rotate_left
  · intro w hSw; go_simp; try with_reducible rfl
  try simp only [Act.put, List.setIfInBounds_toArray, List.set_cons_zero, List.set_cons_succ]
  refine wpAnyG_one (i := 28) (o := { dst := some 2, op := Op.assign (Operand.tmp 70), type := 4, pos := "law.go:33", after := #[{ on := 27, ground := Ground.data }, { on := 26, ground := Ground.chain }, { on := 0, ground := Ground.phase }, { on := 1, ground := Ground.phase }, { on := 2, ground := Ground.phase }, { on := 3, ground := Ground.phase }, { on := 4, ground := Ground.phase }, { on := 5, ground := Ground.phase }, { on := 6, ground := Ground.phase }, { on := 7, ground := Ground.phase }, { on := 8, ground := Ground.phase }, { on := 9, ground := Ground.phase }, { on := 10, ground := Ground.phase }, { on := 11, ground := Ground.phase }, { on := 12, ground := Ground.phase }, { on := 13, ground := Ground.phase }, { on := 14, ground := Ground.phase }, { on := 15, ground := Ground.phase }, { on := 16, ground := Ground.phase }, { on := 17, ground := Ground.phase }, { on := 18, ground := Ground.phase }, { on := 19, ground := Ground.phase }, { on := 20, ground := Ground.phase }, { on := 21, ground := Ground.phase }, { on := 22, ground := Ground.phase }, { on := 23, ground := Ground.phase }, { on := 24, ground := Ground.phase }, { on := 25, ground := Ground.phase }, { on := 26, ground := Ground.phase }, { on := 27, ground := Ground.phase }], guard := none }) (by kernel_rfl) rfl (fun K hK => ?_)
  go_simp
  refine hK.out _ _ (.inr rfl) ?_
  clear hK K
  try simp only [Act.put, List.setIfInBounds_toArray, List.set_cons_zero, List.set_cons_succ]
  refine wpAnyG_done (by kernel_rfl) ?_ _
  clear hHeld
  go_wp2
  go_ret
  exact ⟨rfl, HB.out⟩
end Go.Proofs.YtellhmbebimenaaDoor.letterBytes
