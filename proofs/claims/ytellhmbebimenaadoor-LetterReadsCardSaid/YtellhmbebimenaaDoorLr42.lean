/- Contracts: letter.Mail, letter.Bare; the letter chapter's rows (couponlaw20.known). -/
import Derived.Test.YtellhmbebimenaaDoorLr38
import Derived.Test.YtellhmbebimenaaDoorLr41
import Derived.Test.YtellhmbebimenaaDoorLr18

set_option linter.unusedVariables false
set_option linter.unusedSimpArgs false
namespace Go.Proofs.YtellhmbebimenaaDoor
open Go.RowKit

def bareL (f t a : Int) : Lt := ⟨f, t, 0, a, 0, 0, 0, 0, 0, 0, 0, 0, 0, 0, 0⟩
section
attribute [local go_sem ↓] ml_execLoad lt_execLoad lt_execStore

attribute [local go_sem] ml_load lt_load lt_store loL_drew okL_drew

set_option maxRecDepth 8000 in
set_option maxHeartbeats 2000000 in
theorem lBare_any (f t a : Int) (hf : I64 f) (ht : I64 t) (ha : U64 a) (w : World) :
    Calls Tryd.prog 11 #[.int .i64 f, .int .i64 t, .int .u64 a] w fun e w' => e = .returned (.tuple #[.agg (fitL (bareL f t a) true).arr, .int .i64 (if (true && (bareL f t a).may) = true then 0 else 2)]) ∧ Below w.heap.size w w' := by
  have hwf : (bareL f t a).wf := ⟨hf, ht, ⟨Int.le_refl 0, show (0 : Int) ≤ _ by decide⟩, ha, ⟨Int.le_refl 0, show (0 : Int) ≤ _ by decide⟩, ⟨show _ ≤ (0 : Int) by decide, show (0 : Int) ≤ _ by decide⟩⟩
  have HF := Lib.hid (fun W => fit_any (bareL f t a) hwf true W)
  have HF : Hid (∀ W : World, Calls Tryd.prog 38 #[.agg #[.int .i64 f, .int .i64 t, .int .u64 0, .int .u64 a, .int .i64 0, .int .u64 0, .int .i64 0, .int .i64 0, .int .i64 0, .int .i64 0, .int .i64 0, .int .i64 0, .int .i64 0, .int .i64 0, .int .u64 0], .bool true] W fun e w' => e = .returned (.tuple #[.agg (fitL (bareL f t a) true).arr, .int .i64 (if (true && (bareL f t a).may) = true then 0 else 2)]) ∧ Below W.heap.size W w') := Lib.hid HF.out
  generalize (if (true && (bareL f t a).may) = true then (0 : Int) else 2) = ev at *
  generalize fitL (bareL f t a) true = y at *
  unfold Lt.arr at *
  have hb1 := (Below.refl w.heap.size w).alloc (Nat.le_refl _) (.cells #[.int .i64 0, .int .i64 0, .int .u64 0, .int .u64 0, .int .i64 0, .int .u64 0, .int .i64 0, .int .i64 0, .int .i64 0, .int .i64 0, .int .i64 0, .int .i64 0, .int .i64 0, .int .i64 0, .int .u64 0] 31)
  have hr1 := new_rowW w (.cells #[.int .i64 0, .int .i64 0, .int .u64 0, .int .u64 0, .int .i64 0, .int .u64 0, .int .i64 0, .int .i64 0, .int .i64 0, .int .i64 0, .int .i64 0, .int .i64 0, .int .i64 0, .int .i64 0, .int .u64 0] 31) _ rfl
  have HB := Lib.hid hb1
  have HR := Lib.hid hr1
  clear hb1 hr1 hwf hf ht ha
  have hx1 : ([.int .i64 y.f, .int .i64 y.t, .int .u64 y.n, .int .u64 y.a, .int .i64 y.k, .int .u64 y.tk, .int .i64 y.c, .int .i64 y.d, .int .i64 y.co, .int .i64 y.fl, .int .i64 y.dy, .int .i64 y.va, .int .i64 y.st, .int .i64 y.ho, .int .u64 y.nx] : List Value).length = 15 := rfl
  have hx2 : ([.int .i64 y.f, .int .i64 y.t, .int .u64 y.n, .int .u64 y.a, .int .i64 y.k, .int .u64 y.tk, .int .i64 y.c, .int .i64 y.d, .int .i64 y.co, .int .i64 y.fl, .int .i64 y.dy, .int .i64 y.va, .int .i64 y.st, .int .i64 y.ho, .int .u64 y.nx] : List Value).all (·.oneCell') = true := rfl
  go_enter Tryd.func11, Tryd.ntmps11
  go_wp2_with fail
  refine (HF.out _).mono ?_
  rintro e w1 ⟨rfl, hbm⟩
  have HR := Lib.hid ((hbm.block _ (block_lt HR.out)).trans HR.out)
  have HB := Lib.hid (HB.out.trans (hbm.mono HB.out.size))
  clear hbm
  have th := there_rowT (n := 15) HR.out rfl
  go_wp2_with fail
  have hr6 := setCells_rowT (g := w.heap.size) (cs := [.int .i64 y.f, .int .i64 y.t, .int .u64 y.n, .int .u64 y.a, .int .i64 y.k, .int .u64 y.tk, .int .i64 y.c, .int .i64 y.d, .int .i64 y.co, .int .i64 y.fl, .int .i64 y.dy, .int .i64 y.va, .int .i64 y.st, .int .i64 y.ho, .int .u64 y.nx]) HR.out rfl
  (try simp only [Exit.inBlock, Exit.then])
  refine bodyPost_ret (results_cellT2 rfl _ _ w.heap.size rfl (loadLt hr6 rfl)) rfl ?_
  exact ⟨rfl, Only.below HB.out (Nat.le_refl _) HB.out.size ((Only.refl w.heap.size _).setCells 0 _)⟩
set_option maxRecDepth 8000 in
set_option maxHeartbeats 2000000 in
theorem lMail_any (x : Lt) (hw : x.wf) (w : World) :
    Calls Tryd.prog 9 #[.int .i64 x.f, .int .i64 x.t, .int .u64 x.n, .int .u64 x.a, .agg #[.int .i64 x.k, .int .u64 x.tk, .int .i64 x.c, .int .i64 x.d, .int .i64 x.co, .int .i64 x.fl, .int .i64 x.dy, .int .i64 x.va, .int .i64 x.st, .int .i64 x.ho, .int .u64 x.nx]] w fun e w' => e = .returned (.tuple #[.agg (fitL x (x.n != 0)).arr, .int .i64 (if ((x.n != 0) && x.may) = true then 0 else 2)]) ∧ Below w.heap.size w w' := by
  have HF := Lib.hid (fun W => fit_any x hw (x.n != 0) W)
  generalize (if ((x.n != 0) && x.may) = true then (0 : Int) else 2) = ev at *
  generalize fitL x (x.n != 0) = y at *
  unfold Lt.arr at *
  have hb1 := (Below.refl w.heap.size w).alloc (Nat.le_refl _) (.cells #[.int .i64 x.k, .int .u64 x.tk, .int .i64 x.c, .int .i64 x.d, .int .i64 x.co, .int .i64 x.fl, .int .i64 x.dy, .int .i64 x.va, .int .i64 x.st, .int .i64 x.ho, .int .u64 x.nx] 29)
  have hr1 := new_rowW w (.cells #[.int .i64 x.k, .int .u64 x.tk, .int .i64 x.c, .int .i64 x.d, .int .i64 x.co, .int .i64 x.fl, .int .i64 x.dy, .int .i64 x.va, .int .i64 x.st, .int .i64 x.ho, .int .u64 x.nx] 29) _ rfl
  have hb2 := (Below.refl (w.alloc (.cells #[.int .i64 x.k, .int .u64 x.tk, .int .i64 x.c, .int .i64 x.d, .int .i64 x.co, .int .i64 x.fl, .int .i64 x.dy, .int .i64 x.va, .int .i64 x.st, .int .i64 x.ho, .int .u64 x.nx] 29)).heap.size (w.alloc (.cells #[.int .i64 x.k, .int .u64 x.tk, .int .i64 x.c, .int .i64 x.d, .int .i64 x.co, .int .i64 x.fl, .int .i64 x.dy, .int .i64 x.va, .int .i64 x.st, .int .i64 x.ho, .int .u64 x.nx] 29))).alloc (Nat.le_refl _) (.cells #[.int .i64 0, .int .i64 0, .int .u64 0, .int .u64 0, .int .i64 0, .int .u64 0, .int .i64 0, .int .i64 0, .int .i64 0, .int .i64 0, .int .i64 0, .int .i64 0, .int .i64 0, .int .i64 0, .int .u64 0] 31)
  have hr2 := new_rowW (w.alloc (.cells #[.int .i64 x.k, .int .u64 x.tk, .int .i64 x.c, .int .i64 x.d, .int .i64 x.co, .int .i64 x.fl, .int .i64 x.dy, .int .i64 x.va, .int .i64 x.st, .int .i64 x.ho, .int .u64 x.nx] 29)) (.cells #[.int .i64 0, .int .i64 0, .int .u64 0, .int .u64 0, .int .i64 0, .int .u64 0, .int .i64 0, .int .i64 0, .int .i64 0, .int .i64 0, .int .i64 0, .int .i64 0, .int .i64 0, .int .i64 0, .int .u64 0] 31) _ rfl
  have hr3 := (hb2.block _ (block_lt hr1)).trans hr1
  have hsz : (w.alloc (.cells #[.int .i64 x.k, .int .u64 x.tk, .int .i64 x.c, .int .i64 x.d, .int .i64 x.co, .int .i64 x.fl, .int .i64 x.dy, .int .i64 x.va, .int .i64 x.st, .int .i64 x.ho, .int .u64 x.nx] 29)).heap.size = w.heap.size + 1 := by simp
  have HB := Lib.hid (hb1.trans (hb2.mono hb1.size))
  rw [hsz] at hr2
  have HR := Lib.hid hr2
  obtain ⟨f1, f2⟩ := row_loT 11 hr3 rfl rfl
  clear hb1 hb2 hr1 hr2 hr3 hsz hw
  have hx1 : ([.int .i64 y.f, .int .i64 y.t, .int .u64 y.n, .int .u64 y.a, .int .i64 y.k, .int .u64 y.tk, .int .i64 y.c, .int .i64 y.d, .int .i64 y.co, .int .i64 y.fl, .int .i64 y.dy, .int .i64 y.va, .int .i64 y.st, .int .i64 y.ho, .int .u64 y.nx] : List Value).length = 15 := rfl
  have hx2 : ([.int .i64 y.f, .int .i64 y.t, .int .u64 y.n, .int .u64 y.a, .int .i64 y.k, .int .u64 y.tk, .int .i64 y.c, .int .i64 y.d, .int .i64 y.co, .int .i64 y.fl, .int .i64 y.dy, .int .i64 y.va, .int .i64 y.st, .int .i64 y.ho, .int .u64 y.nx] : List Value).all (·.oneCell') = true := rfl
  go_enter Tryd.func9, Tryd.ntmps9
  go_wp2_with fail
  clear f1 f2
  refine (HF.out _).mono ?_
  rintro e w1 ⟨rfl, hbm⟩
  have HR := Lib.hid ((hbm.block _ (block_lt HR.out)).trans HR.out)
  have HB := Lib.hid (HB.out.trans (hbm.mono HB.out.size))
  clear hbm
  have th := there_rowT (n := 15) HR.out rfl
  go_wp2_with fail
  have hr6 := setCells_rowT (g := w.heap.size + 1) (cs := [.int .i64 y.f, .int .i64 y.t, .int .u64 y.n, .int .u64 y.a, .int .i64 y.k, .int .u64 y.tk, .int .i64 y.c, .int .i64 y.d, .int .i64 y.co, .int .i64 y.fl, .int .i64 y.dy, .int .i64 y.va, .int .i64 y.st, .int .i64 y.ho, .int .u64 y.nx]) HR.out rfl
  (try simp only [Exit.inBlock, Exit.then])
  refine bodyPost_ret (results_cellT2 rfl _ _ (w.heap.size + 1) rfl (loadLt hr6 rfl)) rfl ?_
  exact ⟨rfl, Only.below HB.out (Nat.le_succ _) HB.out.size ((Only.refl (w.heap.size + 1) _).setCells 0 _)⟩
theorem lText_any (x : Lt) (hw : x.wf) (w : World) (ht : Tab w) :
    Calls Tryd.prog 16 #[.agg #[.int .i64 x.f, .int .i64 x.t, .int .u64 x.n, .int .u64 x.a, .int .i64 x.k, .int .u64 x.tk, .int .i64 x.c, .int .i64 x.d, .int .i64 x.co, .int .i64 x.fl, .int .i64 x.dy, .int .i64 x.va, .int .i64 x.st, .int .i64 x.ho, .int .u64 x.nx]] w fun e w' => e = .returned (.string ⟨(textLt x).toArray⟩) ∧ Below w.heap.size w w' := by
  by_cases hm : x.may = true
  · exact lText_yes x hw hm w ht
  · exact lText_no x hw (by simpa using hm) w
end
attribute [local go_sem ↓] ml_execLoad lt_execLoad

attribute [local go_sem] ml_load lt_load loL_drew okL_drew

def kA : Lt := ⟨123, 456, 0, 7, 0, 0, 0, 0, 0, 0, 0, 0, 0, 0, 0⟩
def kB : Lt := ⟨123, 456, 2, 0, 1, 4560000000010, 1, 9, 0, 0, 0, 0, 0, 0, 0⟩
theorem dig3 : Dec.digits 123 = [49, 50, 51] ∧ Dec.digits 456 = [52, 53, 54] ∧ Dec.digits 0 = [48] ∧ Dec.digits 7 = [55] ∧ Dec.digits 2 = [50] ∧ Dec.digits 1 = [49] ∧ Dec.digits 9 = [57] := by
  refine ⟨?_, ?_, ?_, ?_, ?_, ?_, ?_⟩ <;> (simp [Dec.digits, Dec.dig]; try decide)
theorem kA_may : kA.may = true := by decide
theorem kB_may : kB.may = true := by decide
theorem kA_text : textLt kA = [49, 50, 51, 62, 52, 53, 54, 32, 35, 48, 32, 43, 55] := by
  obtain ⟨h1, h2, h3, h4, h5, h6, h7⟩ := dig3
  unfold textLt
  rw [kA_may]
  unfold tHd kA
  simp [h1, h2, h3, h4]
theorem kB_text : textLt kB = [49, 50, 51, 62, 52, 53, 54, 32, 35, 50, 32, 43, 48, 32, 97, 115, 107, 32] ++ Dec.digits 4560000000010 ++ [47, 49, 32, 57] := by
  obtain ⟨h1, h2, h3, h4, h5, h6, h7⟩ := dig3
  unfold textLt
  rw [kB_may]
  unfold tMl tHd kB mName
  simp [h1, h2, h3, h4, h5, h6, h7]
theorem kA_len : (encLt kA).length = 20 := by
  unfold encLt encLh kA; simp [Wire.be_length]
theorem kB_len : (encLt kB).length = 34 := by
  unfold encLt encLh encM encMh Lt.ml kB; simp [Wire.be_length]
theorem kA_wf : kA.wf := ⟨⟨by decide, by decide⟩, ⟨by decide, by decide⟩, ⟨by decide, by decide⟩, ⟨by decide, by decide⟩, ⟨by decide, by decide⟩, ⟨by decide, by decide⟩⟩
theorem kB_wf : kB.wf := ⟨⟨by decide, by decide⟩, ⟨by decide, by decide⟩, ⟨by decide, by decide⟩, ⟨by decide, by decide⟩, ⟨by decide, by decide⟩, ⟨by decide, by decide⟩⟩
theorem kA_fit : fitL kA true = kA := by unfold fitL; rw [kA_may]; rfl
theorem kB_fit : fitL kB (kB.n != 0) = kB := by unfold fitL; rw [kB_may]; rfl
theorem own_form20 {w : World} {base n m : Nat} {v : Value} {xs : List Value} {e : TypeId} (h : w.ownsRow base e n v m xs) : ∃ q c, v = .slice q m c := by
  obtain ⟨-, ⟨rfl, rfl⟩ | ⟨k, cap, cur, rfl, -⟩⟩ := h
  · exact ⟨none, 0, rfl⟩
  · exact ⟨_, _, rfl⟩
set_option maxRecDepth 8000 in
set_option maxHeartbeats 4000000 in
theorem known20_any (w : World) (ht : Tab w) : Calls Tryd.prog 13 #[] w fun e w' => e = .returned (.bool true) ∧ Below w.heap.size w w' := by
  have k0 : Num.mkN 456 1 = 4560000000010 := by decide
  have HA : Hid (∀ W : World, Calls Tryd.prog 11 #[.int .i64 123, .int .i64 456, .int .u64 7] W fun e w' => e = .returned (.tuple #[.agg #[.int .i64 123, .int .i64 456, .int .u64 0, .int .u64 7, .int .i64 0, .int .u64 0, .int .i64 0, .int .i64 0, .int .i64 0, .int .i64 0, .int .i64 0, .int .i64 0, .int .i64 0, .int .i64 0, .int .u64 0], .int .i64 0]) ∧ Below W.heap.size W w') := Lib.hid (fun W => by
    have h := lBare_any 123 456 7 ⟨by decide, by decide⟩ ⟨by decide, by decide⟩ ⟨by decide, by decide⟩ W
    rw [show bareL 123 456 7 = kA from rfl, kA_fit, kA_may] at h
    exact h)
  have HBB : Hid (∀ W : World, Calls Tryd.prog 9 #[.int .i64 123, .int .i64 456, .int .u64 2, .int .u64 0, .agg #[.int .i64 1, .int .u64 4560000000010, .int .i64 1, .int .i64 9, .int .i64 0, .int .i64 0, .int .i64 0, .int .i64 0, .int .i64 0, .int .i64 0, .int .u64 0]] W fun e w' => e = .returned (.tuple #[.agg #[.int .i64 123, .int .i64 456, .int .u64 2, .int .u64 0, .int .i64 1, .int .u64 4560000000010, .int .i64 1, .int .i64 9, .int .i64 0, .int .i64 0, .int .i64 0, .int .i64 0, .int .i64 0, .int .i64 0, .int .u64 0], .int .i64 0]) ∧ Below W.heap.size W w') := Lib.hid (fun W => by
    have h := lMail_any kB kB_wf W
    rw [kB_fit, kB_may] at h
    exact h)
  have HYA : Hid (∀ W : World, Calls Tryd.prog 15 #[.agg #[.int .i64 123, .int .i64 456, .int .u64 0, .int .u64 7, .int .i64 0, .int .u64 0, .int .i64 0, .int .i64 0, .int .i64 0, .int .i64 0, .int .i64 0, .int .i64 0, .int .i64 0, .int .i64 0, .int .u64 0]] W fun e w' => ∃ v, e = .returned (.tuple #[v, .int .i64 0]) ∧ (∃ q c, v = .slice q 20 c) ∧ Below W.heap.size W w') := Lib.hid (fun W => (lBytes_yes kA kA_wf kA_may W).mono fun e w' ⟨v, he, ho, hb⟩ => ⟨v, he, by rw [kA_len] at ho; exact own_form20 ho, hb⟩)
  have HYB : Hid (∀ W : World, Calls Tryd.prog 15 #[.agg #[.int .i64 123, .int .i64 456, .int .u64 2, .int .u64 0, .int .i64 1, .int .u64 4560000000010, .int .i64 1, .int .i64 9, .int .i64 0, .int .i64 0, .int .i64 0, .int .i64 0, .int .i64 0, .int .i64 0, .int .u64 0]] W fun e w' => ∃ v, e = .returned (.tuple #[v, .int .i64 0]) ∧ (∃ q c, v = .slice q 34 c) ∧ Below W.heap.size W w') := Lib.hid (fun W => (lBytes_yes kB kB_wf kB_may W).mono fun e w' ⟨v, he, ho, hb⟩ => ⟨v, he, by rw [kB_len] at ho; exact own_form20 ho, hb⟩)
  have HTA : Hid (∀ W : World, Tab W → Calls Tryd.prog 16 #[.agg #[.int .i64 123, .int .i64 456, .int .u64 0, .int .u64 7, .int .i64 0, .int .u64 0, .int .i64 0, .int .i64 0, .int .i64 0, .int .i64 0, .int .i64 0, .int .i64 0, .int .i64 0, .int .i64 0, .int .u64 0]] W fun e w' => e = .returned (.string ⟨#[49, 50, 51, 62, 52, 53, 54, 32, 35, 48, 32, 43, 55]⟩) ∧ Below W.heap.size W w') := Lib.hid (fun W hW => by
    have h := lText_any kA kA_wf W hW
    rw [kA_text] at h
    exact h)
  obtain ⟨TX, hTX⟩ : ∃ TX : ByteArray, TX = ⟨(textLt kB).toArray⟩ := ⟨_, rfl⟩
  have HTB : Hid (∀ W : World, Tab W → Calls Tryd.prog 16 #[.agg #[.int .i64 123, .int .i64 456, .int .u64 2, .int .u64 0, .int .i64 1, .int .u64 4560000000010, .int .i64 1, .int .i64 9, .int .i64 0, .int .i64 0, .int .i64 0, .int .i64 0, .int .i64 0, .int .i64 0, .int .u64 0]] W fun e w' => e = .returned (.string TX) ∧ Below W.heap.size W w') := Lib.hid (fun W hW => by
    rw [hTX]; exact lText_any kB kB_wf W hW)
  have HD := Lib.hid (fun W => rdigits_any 4560000000010 (by decide) (by decide) W)
  have HDL := Post.dig_len (Int.toNat 4560000000010) (by decide)
  obtain ⟨DG, hDG⟩ : ∃ DG : ByteArray, DG = ⟨(Dec.digits (Int.toNat 4560000000010)).toArray⟩ := ⟨_, rfl⟩
  rw [← hDG] at HD
  have hds : DG.size ≤ 20 := by rw [hDG, size_string]; exact HDL
  have HEQ : ((⟨#[49, 50, 51, 62, 52, 53, 54, 32, 35, 50, 32, 43, 48, 32, 97, 115, 107, 32]⟩ : ByteArray) ++ DG) ++ ⟨#[47, 49, 32, 57]⟩ = TX := by
    rw [hTX, hDG, kB_text, show (⟨#[49, 50, 51, 62, 52, 53, 54, 32, 35, 50, 32, 43, 48, 32, 97, 115, 107, 32]⟩ : ByteArray) = ⟨([49, 50, 51, 62, 52, 53, 54, 32, 35, 50, 32, 43, 48, 32, 97, 115, 107, 32] : List UInt8).toArray⟩ from rfl, show (⟨#[47, 49, 32, 57]⟩ : ByteArray) = ⟨([47, 49, 32, 57] : List UInt8).toArray⟩ from rfl, app_string, app_string]
    rfl
  have hc1 : ¬ 9223372036854775807 < (⟨#[49, 50, 51, 62, 52, 53, 54, 32, 35, 50, 32, 43, 48, 32, 97, 115, 107, 32]⟩ : ByteArray).size + DG.size := by rw [show (⟨#[49, 50, 51, 62, 52, 53, 54, 32, 35, 50, 32, 43, 48, 32, 97, 115, 107, 32]⟩ : ByteArray).size = 18 from rfl]; omega
  have hc2 : ¬ 9223372036854775807 < ((⟨#[49, 50, 51, 62, 52, 53, 54, 32, 35, 50, 32, 43, 48, 32, 97, 115, 107, 32]⟩ : ByteArray) ++ DG).size + (⟨#[47, 49, 32, 57]⟩ : ByteArray).size := by rw [ByteArray.size_append, show (⟨#[47, 49, 32, 57]⟩ : ByteArray).size = 4 from rfl, show (⟨#[49, 50, 51, 62, 52, 53, 54, 32, 35, 50, 32, 43, 48, 32, 97, 115, 107, 32]⟩ : ByteArray).size = 18 from rfl]; omega
  clear hDG hTX HDL hds
  have HT := Lib.hid ht
  clear ht
  go_enter Tryd.func13, Tryd.ntmps13
  go_wp2_with fail
  refine (rMake_any _ _ _).mono ?_
  rintro e w1 ⟨rfl, hb⟩
  rw [k0]
  have HB := Lib.hid hb
  clear hb
  go_wp2_with fail
  refine (HA.out _).mono ?_
  rintro e w2 ⟨rfl, hb⟩
  replace HB := Lib.hid (HB.out.trans (hb.mono HB.out.size))
  clear hb
  go_upto_region 3 with fail
  have hb := (Below.refl w2.heap.size w2).alloc (Nat.le_refl _) (.cells #[.int .i64 123, .int .i64 456, .int .u64 0, .int .u64 7, .int .i64 0, .int .u64 0, .int .i64 0, .int .i64 0, .int .i64 0, .int .i64 0, .int .i64 0, .int .i64 0, .int .i64 0, .int .i64 0, .int .u64 0] 31)
  have HRA := Lib.hid (new_rowW w2 (.cells #[.int .i64 123, .int .i64 456, .int .u64 0, .int .u64 7, .int .i64 0, .int .u64 0, .int .i64 0, .int .i64 0, .int .i64 0, .int .i64 0, .int .i64 0, .int .i64 0, .int .i64 0, .int .i64 0, .int .u64 0] 31) _ rfl)
  replace HB := Lib.hid (HB.out.trans (hb.mono HB.out.size))
  clear hb
  generalize w2.alloc (.cells #[.int .i64 123, .int .i64 456, .int .u64 0, .int .u64 7, .int .i64 0, .int .u64 0, .int .i64 0, .int .i64 0, .int .i64 0, .int .i64 0, .int .i64 0, .int .i64 0, .int .i64 0, .int .i64 0, .int .u64 0] 31) = w3 at *
  generalize w2.heap.size = ga at *
  go_wp2_with fail
  refine (HBB.out _).mono ?_
  rintro e w4 ⟨rfl, hb⟩
  replace HB := Lib.hid (HB.out.trans (hb.mono HB.out.size))
  replace HRA := Lib.hid ((hb.block _ (block_lt HRA.out)).trans HRA.out)
  clear hb
  go_upto_region 4 with fail
  have hb := (Below.refl w4.heap.size w4).alloc (Nat.le_refl _) (.cells #[.int .i64 123, .int .i64 456, .int .u64 2, .int .u64 0, .int .i64 1, .int .u64 4560000000010, .int .i64 1, .int .i64 9, .int .i64 0, .int .i64 0, .int .i64 0, .int .i64 0, .int .i64 0, .int .i64 0, .int .u64 0] 31)
  have HRB := Lib.hid (new_rowW w4 (.cells #[.int .i64 123, .int .i64 456, .int .u64 2, .int .u64 0, .int .i64 1, .int .u64 4560000000010, .int .i64 1, .int .i64 9, .int .i64 0, .int .i64 0, .int .i64 0, .int .i64 0, .int .i64 0, .int .i64 0, .int .u64 0] 31) _ rfl)
  replace HB := Lib.hid (HB.out.trans (hb.mono HB.out.size))
  replace HRA := Lib.hid ((hb.block _ (block_lt HRA.out)).trans HRA.out)
  clear hb
  generalize w4.alloc (.cells #[.int .i64 123, .int .i64 456, .int .u64 2, .int .u64 0, .int .i64 1, .int .u64 4560000000010, .int .i64 1, .int .i64 9, .int .i64 0, .int .i64 0, .int .i64 0, .int .i64 0, .int .i64 0, .int .i64 0, .int .u64 0] 31) = w5 at *
  generalize w4.heap.size = gb at *
  obtain ⟨f1, f2⟩ := row_loT 15 HRA.out rfl rfl
  go_wp2_with fail
  clear f1 f2
  refine (HYA.out _).mono ?_
  rintro e w6 ⟨v6, rfl, ⟨q6, c6, rfl⟩, hb⟩
  replace HB := Lib.hid (HB.out.trans (hb.mono HB.out.size))
  replace HRA := Lib.hid ((hb.block _ (block_lt HRA.out)).trans HRA.out)
  replace HRB := Lib.hid ((hb.block _ (block_lt HRB.out)).trans HRB.out)
  clear hb
  obtain ⟨f1, f2⟩ := row_loT 15 HRB.out rfl rfl
  go_wp2_with fail
  clear f1 f2
  refine (HYB.out _).mono ?_
  rintro e w7 ⟨v7, rfl, ⟨q7, c7, rfl⟩, hb⟩
  replace HB := Lib.hid (HB.out.trans (hb.mono HB.out.size))
  replace HRA := Lib.hid ((hb.block _ (block_lt HRA.out)).trans HRA.out)
  replace HRB := Lib.hid ((hb.block _ (block_lt HRB.out)).trans HRB.out)
  clear hb
  obtain ⟨f1, f2⟩ := row_loT 15 HRA.out rfl rfl
  go_wp2_with fail
  clear f1 f2
  refine (HTA.out _ (HT.out.below HB.out)).mono ?_
  rintro e w8 ⟨rfl, hb⟩
  replace HB := Lib.hid (HB.out.trans (hb.mono HB.out.size))
  replace HRA := Lib.hid ((hb.block _ (block_lt HRA.out)).trans HRA.out)
  replace HRB := Lib.hid ((hb.block _ (block_lt HRB.out)).trans HRB.out)
  clear hb
  obtain ⟨f1, f2⟩ := row_loT 15 HRB.out rfl rfl
  go_wp2_with fail
  clear f1 f2
  refine (HTB.out _ (HT.out.below HB.out)).mono ?_
  rintro e w9 ⟨rfl, hb⟩
  replace HB := Lib.hid (HB.out.trans (hb.mono HB.out.size))
  replace HRA := Lib.hid ((hb.block _ (block_lt HRA.out)).trans HRA.out)
  replace HRB := Lib.hid ((hb.block _ (block_lt HRB.out)).trans HRB.out)
  clear hb
  go_wp2_with fail
  refine (HD.out _).mono ?_
  rintro e w10 ⟨rfl, hb⟩
  replace HB := Lib.hid (HB.out.trans (hb.mono HB.out.size))
  clear hb
  go_wp2_with fail
  go_ret
  exact ⟨ret_bool (by simp [HEQ]), HB.out⟩
end Go.Proofs.YtellhmbebimenaaDoor
