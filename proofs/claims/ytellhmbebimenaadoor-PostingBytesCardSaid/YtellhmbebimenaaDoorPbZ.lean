/- PostingBytes returns true for every posting, and leaves the memory that was there as it was; under a listed table as the program's text lays it, and tied to it. -/
import Derived.Test.YtellhmbebimenaaDoorPb26
import Derived.Test.YtellhmbebimenaaDoorPb44
import Derived.Test.YtellhmbebimenaaDoorPb46
import Derived.Test.YtellhmbebimenaaDoorPb49
import Derived.Test.YtellhmbebimenaaDoorPb48
import Derived.Test.YtellhmbebimenaaDoorPb51
import Derived.Test.YtellhmbebimenaaDoorPb12
import Derived.Test.YtellhmbebimenaaDoorCards
import Derived.Test.YtellhmbebimenaaDoorTie
import Derived.ProofKit
import Derived.OpenShut
import Derived.Stop.Joined
import Derived.SevenTiedAt

set_option linter.unusedVariables false
set_option linter.unusedSimpArgs false
namespace Go.Proofs.YtellhmbebimenaaDoor.postingBytes
open Go.ChangeShapes Go.WideShapes Go.ChangeAt Go.RowKit Go.Deep

attribute [local go_sem ↓] post_execLoad post_execStore

attribute [local go_sem] post_load post_store loL_drew okL_drew there_sc World.there_drew

theorem enc_key (x : Pst) (ht : 0 ≤ x.t ∧ x.t ≤ 18446744073709551615) (hm : x.may = true) : (encP x).take 10 = keyP x := by
  obtain ⟨hk, hd, hs⟩ := may_in hm
  have e1 : u64 x.t = x.t.toNat := by unfold u64; omega
  have e2 : u64 x.s = x.s.toNat := by unfold u64; omega
  unfold encP encH keyP
  rw [e1, e2, List.append_assoc, List.append_assoc, List.take_append_of_le_length (by rw [List.length_append, Wire.be_length, Wire.be_length]; omega), List.take_of_length_le (by rw [List.length_append, Wire.be_length, Wire.be_length]; omega)]
theorem run_headB (q : Option Addr) (n cap k : Nat) (h : k ≤ cap) (W : World) : (Instr.slice 38 (.slice q n cap) none (some (.int .i64 (k : Int))) none).run Tryd.prog W = .ok (.slice q k cap) W := by
  have ht : Tryd.prog.underlying 38 = some (.slice (Tryd.prog.elem 38)) := by kernel_rfl
  have hz : ∀ W : World, (sizeOf (Tryd.prog.elem 38)).run Tryd.prog W = .ok 1 W := fun W => by
    rw [show Tryd.prog.elem 38 = 5 from by kernel_rfl]; simp [go_sem]
  rw [run_slice_h W _ _ _ _ ht _ _ (by omega) (by omega), hz]
  cases q <;> simp [sliced, Result.andThen, Addr.add]
set_option maxHeartbeats 400000 in
theorem pBytes_no (x : Pst) (hw : x.wf) (hm : x.may = false) (w : World) : Calls Tryd.prog 22 #[.agg #[.int .i64 x.d, .int .u64 x.t, .int .i64 x.s, .int .i64 x.k, .int .i64 x.a0, .int .i64 x.a1, .int .i64 x.a2, .int .i64 x.a3, .int .i64 x.a4, .int .i64 x.a5]] w fun e w' => e = .returned (.tuple #[.slice none 0 0, .int .i64 2]) ∧ Below w.heap.size w w' := by
  have ht := in_u64 hw.2.1
  have HPM := Lib.hid (fun W => may_any x.d x.t x.s x.k x.a0 x.a1 x.a2 x.a3 x.a4 x.a5 ht.1 ht.2 W)
  have hq : Post.may x.d x.t x.s x.k [x.a0, x.a1, x.a2, x.a3, x.a4, x.a5] = false := hm
  rw [hq] at HPM
  have HB0 := Lib.hid ((Below.refl w.heap.size w).alloc (Nat.le_refl _) (.cells #[.int .i64 x.d, .int .u64 x.t, .int .i64 x.s, .int .i64 x.k, .int .i64 x.a0, .int .i64 x.a1, .int .i64 x.a2, .int .i64 x.a3, .int .i64 x.a4, .int .i64 x.a5] 49))
  obtain ⟨f1, f2⟩ := row_loT 10 (new_rowW w (.cells #[.int .i64 x.d, .int .u64 x.t, .int .i64 x.s, .int .i64 x.k, .int .i64 x.a0, .int .i64 x.a1, .int .i64 x.a2, .int .i64 x.a3, .int .i64 x.a4, .int .i64 x.a5] 49) _ rfl) rfl rfl
  clear hq hw hm ht
  go_enter Tryd.func22, Tryd.ntmps22
  go_wp2_with (go_at_call 25; refine (HPM.out _).mono ?_; rintro e wn ⟨rfl, hbn⟩)
  go_ret2
  exact ⟨rfl, HB0.out.trans (hbn.mono HB0.out.size)⟩
set_option maxHeartbeats 400000 in
theorem pKey_no (x : Pst) (hw : x.wf) (hm : x.may = false) (w : World) : Calls Tryd.prog 23 #[.agg #[.int .i64 x.d, .int .u64 x.t, .int .i64 x.s, .int .i64 x.k, .int .i64 x.a0, .int .i64 x.a1, .int .i64 x.a2, .int .i64 x.a3, .int .i64 x.a4, .int .i64 x.a5]] w fun e w' => e = .returned (.tuple #[.slice none 0 0, .int .i64 2]) ∧ Below w.heap.size w w' := by
  have HBN := Lib.hid (fun W => pBytes_no x hw hm W)
  have HB0 := Lib.hid ((Below.refl w.heap.size w).alloc (Nat.le_refl _) (.cells #[.int .i64 x.d, .int .u64 x.t, .int .i64 x.s, .int .i64 x.k, .int .i64 x.a0, .int .i64 x.a1, .int .i64 x.a2, .int .i64 x.a3, .int .i64 x.a4, .int .i64 x.a5] 49))
  obtain ⟨f1, f2⟩ := row_loT 10 (new_rowW w (.cells #[.int .i64 x.d, .int .u64 x.t, .int .i64 x.s, .int .i64 x.k, .int .i64 x.a0, .int .i64 x.a1, .int .i64 x.a2, .int .i64 x.a3, .int .i64 x.a4, .int .i64 x.a5] 49) _ rfl) rfl rfl
  clear hw hm
  go_enter Tryd.func23, Tryd.ntmps23
  go_wp2_with (go_at_call 22; refine (HBN.out _).mono ?_; rintro e wn ⟨rfl, hbn⟩)
  go_ret2
  exact ⟨rfl, HB0.out.trans (hbn.mono HB0.out.size)⟩
set_option maxRecDepth 8000 in
set_option maxHeartbeats 4000000 in
theorem walk (x : Pst) (hw : x.wf) (w : World) (htab : Tab w) : Calls Tryd.prog 7 #[.agg #[.int .i64 x.d, .int .u64 x.t, .int .i64 x.s, .int .i64 x.k, .int .i64 x.a0, .int .i64 x.a1, .int .i64 x.a2, .int .i64 x.a3, .int .i64 x.a4, .int .i64 x.a5]] w fun e w' => e = .returned (.bool true) ∧ Below w.heap.size w w' := by
  have HT := Lib.hid htab
  have HKN := Lib.hid (fun W => known14_any W)
  have ht := in_u64 hw.2.1
  have HPM := Lib.hid (fun W => may_any x.d x.t x.s x.k x.a0 x.a1 x.a2 x.a3 x.a4 x.a5 ht.1 ht.2 W)
  have HRM := Lib.hid (fun W => rMay_any x.d x.t x.s x.k x.a0 x.a1 x.a2 x.a3 x.a4 x.a5 ht.1 ht.2 W)
  have HPT := Lib.hid (fun W hW => pText_any x.d x.t x.s x.k x.a0 x.a1 x.a2 x.a3 x.a4 x.a5 ht.1 ht.2 W hW)
  have HRT := Lib.hid (fun W => rText14_any x.d x.t x.s x.k x.a0 x.a1 x.a2 x.a3 x.a4 x.a5 ht.1 ht.2 W)
  have HSA : Hid (∀ W, Calls Tryd.prog 28 #[.agg #[.int .i64 x.d, .int .u64 x.t, .int .i64 x.s, .int .i64 x.k, .int .i64 x.a0, .int .i64 x.a1, .int .i64 x.a2, .int .i64 x.a3, .int .i64 x.a4, .int .i64 x.a5], .agg #[.int .i64 x.d, .int .u64 x.t, .int .i64 x.s, .int .i64 x.k, .int .i64 x.a0, .int .i64 x.a1, .int .i64 x.a2, .int .i64 x.a3, .int .i64 x.a4, .int .i64 x.a5]] W fun e w' => e = .returned (.bool true) ∧ Below W.heap.size W w') := Lib.hid (fun W => same_any x x true (fun W => eqPst _ _ _ _ _ _ _ _ _ _ W) W)
  have HTU := Lib.hid (fun W hW => htab.below (w' := W) hW)
  obtain ⟨q, hq⟩ : ∃ q, x.may = q := ⟨_, rfl⟩
  have hq2 : Post.may x.d x.t x.s x.k [x.a0, x.a1, x.a2, x.a3, x.a4, x.a5] = q := hq
  rw [hq2] at HPM HRM
  have HQ := Lib.hid hq
  generalize Post.textB x.d x.t x.s x.k [x.a0, x.a1, x.a2, x.a3, x.a4, x.a5] = TX at *
  have HWF := Lib.hid hw
  have HTQ := Lib.hid ht
  clear hq hq2 hw ht htab
  have hG := guardPst
  have hE := fun W => eqPst x.d x.t x.s x.k x.a0 x.a1 x.a2 x.a3 x.a4 x.a5 W
  have HB := Lib.hid ((Below.refl w.heap.size w).alloc (Nat.le_refl _) (.cells #[.int .i64 x.d, .int .u64 x.t, .int .i64 x.s, .int .i64 x.k, .int .i64 x.a0, .int .i64 x.a1, .int .i64 x.a2, .int .i64 x.a3, .int .i64 x.a4, .int .i64 x.a5] 49))
  have HR := Lib.hid (new_rowW w (.cells #[.int .i64 x.d, .int .u64 x.t, .int .i64 x.s, .int .i64 x.k, .int .i64 x.a0, .int .i64 x.a1, .int .i64 x.a2, .int .i64 x.a3, .int .i64 x.a4, .int .i64 x.a5] 49) _ rfl)
  obtain ⟨f1, f2⟩ := row_loT 10 HR.out rfl rfl
  cases q
  · have HBN := Lib.hid (fun W => pBytes_no x HWF.out HQ.out W)
    have HKY := Lib.hid (fun W => pKey_no x HWF.out HQ.out W)
    go_enter Tryd.func7, Tryd.ntmps7
    go_upto_region 4 with (first | (go_at_call 22; refine (HBN.out _).mono ?_; rintro e wn ⟨rfl, hbn⟩; have HB := Lib.hid (HB.out.trans (hbn.mono HB.out.size)); have HR := Lib.hid ((hbn.block _ (block_lt HR.out)).trans HR.out); clear hbn; (obtain ⟨f1, f2⟩ := row_loT 10 HR.out rfl rfl); skip) | (go_at_call 23; refine (HKY.out _).mono ?_; rintro e wn ⟨rfl, hbn⟩; have HB := Lib.hid (HB.out.trans (hbn.mono HB.out.size)); have HR := Lib.hid ((hbn.block _ (block_lt HR.out)).trans HR.out); clear hbn; (obtain ⟨f1, f2⟩ := row_loT 10 HR.out rfl rfl); skip) | (go_at_call 24; refine (HRM.out _).mono ?_; rintro e wn ⟨rfl, hbn⟩; have HB := Lib.hid (HB.out.trans (hbn.mono HB.out.size)); have HR := Lib.hid ((hbn.block _ (block_lt HR.out)).trans HR.out); clear hbn; (obtain ⟨f1, f2⟩ := row_loT 10 HR.out rfl rfl); skip))
    clear f1 f2
    have hcu := fun (u : Later wn) => row_loT (w := u.val) (g := w.heap.size) (cs := [.int .i64 x.d, .int .u64 x.t, .int .i64 x.s, .int .i64 x.k, .int .i64 x.a0, .int .i64 x.a1, .int .i64 x.a2, .int .i64 x.a3, .int .i64 x.a4, .int .i64 x.a5]) (e := 49) 10 ((u.prop.block _ (block_lt HR.out)).trans HR.out) rfl rfl
    have hc1 := fun u => (hcu u).1; have hc2 := fun u => (hcu u).2
    clear hcu
    have HTV := Lib.hid (fun u : Later wn => HTU.out u.val (HB.out.trans (u.prop.mono HB.out.size)))
    refine wp_region_later (by kernel_rfl) (by kernel_rfl) ?_
    repeat (go_big_quiet_step (first | (go_at_call 25; exact later_call (HPM.out _)) | (go_at_call 26; exact later_call (HPT.out _ (HTV.out _))) | (go_at_call 27; exact later_call (HRT.out _)) | (go_at_call 28; exact later_call (HSA.out _))))
    refine wpQuiet_nil ?_
    rintro w9 ⟨u, rfl⟩
    have hbn := u.prop
    clear hc1 hc2
    have HB := Lib.hid (HB.out.trans (hbn.mono HB.out.size))
    have HR := Lib.hid ((hbn.block _ (block_lt HR.out)).trans HR.out)
    clear hbn
    generalize u.val = w9 at *
    go_wp2_with (go_at_call 29; refine (HKN.out _).mono ?_; rintro e wk ⟨rfl, hbk⟩)
    go_ret
    exact ⟨rfl, HB.out.trans (hbk.mono HB.out.size)⟩
  · have HBN := Lib.hid (fun W => pBytesP x HWF.out HQ.out W)
    have HKY := Lib.hid (fun W => pKeyP_any x HTQ.out HQ.out W)
    have HRB := Lib.hid (fun W => rBytesP x HWF.out HQ.out W)
    have HOF : Hid (∀ W v, BS W v (encP x) → Calls Tryd.prog 30 #[v] W fun e w' => e = .returned (.tuple #[.agg #[.int .i64 x.d, .int .u64 x.t, .int .i64 x.s, .int .i64 x.k, .int .i64 x.a0, .int .i64 x.a1, .int .i64 x.a2, .int .i64 x.a3, .int .i64 x.a4, .int .i64 x.a5], .int .i64 0]) ∧ Below W.heap.size W w') := Lib.hid (fun W v hv => by
      have h := pOf_any v (encP x) (by rw [encP_length]; decide) W hv
      have hc : (encP x).length = 63 ∧ (pOf (encP x)).may = true := ⟨encP_length x, by rw [pOf_encP HWF.out HQ.out]; exact HQ.out⟩
      rw [if_pos hc, if_pos hc, pOf_encP HWF.out HQ.out] at h
      exact h)
    have HEL := Lib.hid (encP_length x)
    have HKT : Hid ((encP x).take 10 = keyP x) := Lib.hid (enc_key x HTQ.out HQ.out)
    go_enter Tryd.func7, Tryd.ntmps7
    go_wp2_with fail
    clear f1 f2
    refine (HBN.out _).mono ?_
    rintro e wn ⟨vb, rfl, hob, hbn⟩
    rw [show (encP x).length = 63 from encP_length x] at hob
    have HOB := Lib.hid (BS.of_own hob)
    obtain ⟨qb, cb, rfl⟩ := own_form hob
    clear hob
    have HB := Lib.hid (HB.out.trans (hbn.mono HB.out.size))
    have HR := Lib.hid ((hbn.block _ (block_lt HR.out)).trans HR.out)
    clear hbn
    (obtain ⟨f1, f2⟩ := row_loT 10 HR.out rfl rfl)
    generalize wn = wm at *
    go_wp2_with fail
    clear f1 f2
    refine (HKY.out _).mono ?_
    rintro e wn ⟨vk, rfl, hok, hbn⟩
    have HOK := Lib.hid hok
    clear hok
    have HB := Lib.hid (HB.out.trans (hbn.mono HB.out.size))
    have HR := Lib.hid ((hbn.block _ (block_lt HR.out)).trans HR.out)
    have HOB := Lib.hid (HOB.out.below hbn)
    clear hbn
    obtain ⟨qk, ck, rfl, hk1, hk2, -⟩ := id HOK.out
    (obtain ⟨f1, f2⟩ := row_loT 10 HR.out rfl rfl)
    generalize wn = wm at *
    go_upto_region 4 with ((go_at_call 24; refine (HRM.out _).mono ?_; rintro e wn ⟨rfl, hbn⟩; have HB := Lib.hid (HB.out.trans (hbn.mono HB.out.size)); have HR := Lib.hid ((hbn.block _ (block_lt HR.out)).trans HR.out); have HOB := Lib.hid (HOB.out.below hbn); have HOK := Lib.hid (HOK.out.below hbn); clear hbn; (obtain ⟨f1, f2⟩ := row_loT 10 HR.out rfl rfl); skip))
    clear f1 f2
    have hcu := fun (u : Later wn) => row_loT (w := u.val) (g := w.heap.size) (cs := [.int .i64 x.d, .int .u64 x.t, .int .i64 x.s, .int .i64 x.k, .int .i64 x.a0, .int .i64 x.a1, .int .i64 x.a2, .int .i64 x.a3, .int .i64 x.a4, .int .i64 x.a5]) (e := 49) 10 ((u.prop.block _ (block_lt HR.out)).trans HR.out) rfl rfl
    have hc1 := fun u => (hcu u).1; have hc2 := fun u => (hcu u).2
    clear hcu
    have HTV := Lib.hid (fun u : Later wn => HTU.out u.val (HB.out.trans (u.prop.mono HB.out.size)))
    refine wp_region_later (by kernel_rfl) (by kernel_rfl) ?_
    repeat (go_big_quiet_step (first | (go_at_call 25; exact later_call (HPM.out _)) | (go_at_call 26; exact later_call (HPT.out _ (HTV.out _))) | (go_at_call 27; exact later_call (HRT.out _)) | (go_at_call 28; exact later_call (HSA.out _))))
    refine wpQuiet_nil ?_
    rintro w9 ⟨u, rfl⟩
    have hbn := u.prop
    clear hc1 hc2
    have HB := Lib.hid (HB.out.trans (hbn.mono HB.out.size))
    have HR := Lib.hid ((hbn.block _ (block_lt HR.out)).trans HR.out)
    have HOB := Lib.hid (HOB.out.below hbn)
    have HOK := Lib.hid (HOK.out.below hbn)
    clear hbn
    generalize u.val = wm at *
    go_wp2_with fail
    refine (HOF.out _ _ HOB.out).mono ?_
    rintro e wn ⟨rfl, hbn⟩
    have HB := Lib.hid (HB.out.trans (hbn.mono HB.out.size))
    have HR := Lib.hid ((hbn.block _ (block_lt HR.out)).trans HR.out)
    have HOB := Lib.hid (HOB.out.below hbn)
    have HOK := Lib.hid (HOK.out.below hbn)
    clear hbn
    have th := there_newT (w := wn) (zs := [.int .i64 0, .int .u64 0, .int .i64 0, .int .i64 0, .int .i64 0, .int .i64 0, .int .i64 0, .int .i64 0, .int .i64 0, .int .i64 0]) (e := 49) (n := 10) rfl
    have h1n : ([.int .i64 x.d, .int .u64 x.t, .int .i64 x.s, .int .i64 x.k, .int .i64 x.a0, .int .i64 x.a1, .int .i64 x.a2, .int .i64 x.a3, .int .i64 x.a4, .int .i64 x.a5] : List Value).length = 10 := rfl
    have h1c : ([.int .i64 x.d, .int .u64 x.t, .int .i64 x.s, .int .i64 x.k, .int .i64 x.a0, .int .i64 x.a1, .int .i64 x.a2, .int .i64 x.a3, .int .i64 x.a4, .int .i64 x.a5] : List Value).all (·.oneCell') = true := rfl
    go_upto_region 9 with fail
    have HP := Lib.hid (putRec (W := wn) (e := 49) (zs := [.int .i64 0, .int .u64 0, .int .i64 0, .int .i64 0, .int .i64 0, .int .i64 0, .int .i64 0, .int .i64 0, .int .i64 0, .int .i64 0]) (cs := [.int .i64 x.d, .int .u64 x.t, .int .i64 x.s, .int .i64 x.k, .int .i64 x.a0, .int .i64 x.a1, .int .i64 x.a2, .int .i64 x.a3, .int .i64 x.a4, .int .i64 x.a5]) rfl)
    have HR := Lib.hid ((HP.out.2.block _ (block_lt HR.out)).trans HR.out)
    have HOB := Lib.hid (HOB.out.below HP.out.2)
    have HOK := Lib.hid (HOK.out.below HP.out.2)
    have HB := Lib.hid (HB.out.trans (HP.out.2.mono HB.out.size))
    have HR8 := Lib.hid HP.out.1
    clear HP th h1n h1c
    generalize (wn.alloc (.cells #[.int .i64 0, .int .u64 0, .int .i64 0, .int .i64 0, .int .i64 0, .int .i64 0, .int .i64 0, .int .i64 0, .int .i64 0, .int .i64 0] 49)).setCells wn.heap.size 0 [.int .i64 x.d, .int .u64 x.t, .int .i64 x.s, .int .i64 x.k, .int .i64 x.a0, .int .i64 x.a1, .int .i64 x.a2, .int .i64 x.a3, .int .i64 x.a4, .int .i64 x.a5] = w7 at *
    generalize wn.heap.size = g8 at *
    obtain ⟨S, hS⟩ : ∃ S : ByteArray, ⟨(encP x).toArray⟩ = S := ⟨_, rfl⟩
    obtain ⟨KS, hK0⟩ : ∃ K : ByteArray, ⟨(keyP x).toArray⟩ = K := ⟨_, rfl⟩
    have HSV : Hid (∀ W v, BS W v (encP x) → (convert 38 9 v).run Tryd.prog W = .ok (.string S) W) := Lib.hid (fun W v hv => by rw [← hS]; exact hv.to_string)
    have HKV : Hid (∀ W v, BS W v (keyP x) → (convert 38 9 v).run Tryd.prog W = .ok (.string KS) W) := Lib.hid (fun W v hv => by rw [← hK0]; exact hv.to_string)
    have HTK : Hid (∀ W, BS W (.slice qb 63 cb) (encP x) → BS W (.slice qb 10 cb) (keyP x)) := Lib.hid (fun W h => by rw [← HKT.out]; exact h.head (k := 10) (by rw [HEL.out]; decide))
    have hcap : 63 ≤ cb := by have h1 := HOB.out; obtain ⟨p, c, e1, h2, -⟩ := h1; injection e1 with _ _ e3; rw [HEL.out] at h2; omega
    have hsl := fun W => run_headB qb 63 cb 10 (by omega) W
    clear hS hK0
    have hcapI : (10 : Int) ≤ (cb : Int) := by omega
    refine wp_region_G (C := fun W => ((loL 10 W w.heap.size 0 = [.int .i64 x.d, .int .u64 x.t, .int .i64 x.s, .int .i64 x.k, .int .i64 x.a0, .int .i64 x.a1, .int .i64 x.a2, .int .i64 x.a3, .int .i64 x.a4, .int .i64 x.a5] ∧ okL 10 W w.heap.size 0) ∧ (loL 10 W g8 0 = [.int .i64 x.d, .int .u64 x.t, .int .i64 x.s, .int .i64 x.k, .int .i64 x.a0, .int .i64 x.a1, .int .i64 x.a2, .int .i64 x.a3, .int .i64 x.a4, .int .i64 x.a5] ∧ okL 10 W g8 0)) ∧ (convert 38 9 (.slice qb 63 cb)).run Tryd.prog W = .ok (.string S) W ∧ (convert 38 9 (.slice qk (keyP x).length ck)).run Tryd.prog W = .ok (.string KS) W ∧ (convert 38 9 (.slice qb 10 cb)).run Tryd.prog W = .ok (.string KS) W) (s0 := 39) (by kernel_rfl) ?_
    have hbn := (Below.refl w7.heap.size w7).drew
    have HB := Lib.hid (HB.out.trans (hbn.mono HB.out.size))
    have HR := Lib.hid ((hbn.block _ (block_lt HR.out)).trans HR.out)
    have HR8 := Lib.hid ((hbn.block _ (block_lt HR8.out)).trans HR8.out)
    have HOB := Lib.hid (HOB.out.below hbn)
    have HOK := Lib.hid (HOK.out.below hbn)
    clear hbn
    generalize w7.drew = wd at *
    have hHeld := (show ((loL 10 wd w.heap.size 0 = [.int .i64 x.d, .int .u64 x.t, .int .i64 x.s, .int .i64 x.k, .int .i64 x.a0, .int .i64 x.a1, .int .i64 x.a2, .int .i64 x.a3, .int .i64 x.a4, .int .i64 x.a5] ∧ okL 10 wd w.heap.size 0) ∧ (loL 10 wd g8 0 = [.int .i64 x.d, .int .u64 x.t, .int .i64 x.s, .int .i64 x.k, .int .i64 x.a0, .int .i64 x.a1, .int .i64 x.a2, .int .i64 x.a3, .int .i64 x.a4, .int .i64 x.a5] ∧ okL 10 wd g8 0)) ∧ (convert 38 9 (.slice qb 63 cb)).run Tryd.prog wd = .ok (.string S) wd ∧ (convert 38 9 (.slice qk (keyP x).length ck)).run Tryd.prog wd = .ok (.string KS) wd ∧ (convert 38 9 (.slice qb 10 cb)).run Tryd.prog wd = .ok (.string KS) wd from ⟨⟨row_loT 10 HR.out rfl rfl, row_loT 10 HR8.out rfl rfl⟩, HSV.out _ _ HOB.out, HKV.out _ _ HOK.out, HKV.out _ _ (HTK.out _ HOB.out)⟩)
    refine wpAnyG_takeU (i := 0) (oi := { dst := some 65, op := Op.move (Operand.tmp 4), type := 24, pos := "law.go:33", after := #[], guard := none }) (v := ?_) rfl (by kernel_rfl) (by kernel_rfl) (by kernel_rfl) (by decide) (fun _ _ _ h => h) (Or.inl ⟨by rfl, ?_⟩) (.inl (by assumption)) ?_
    rotate_left
    · intro w hSw; go_simp; try with_reducible rfl
    try simp only [Act.put, List.setIfInBounds_toArray, List.set_cons_zero, List.set_cons_succ]
    refine wpAnyG_takeU (i := 1) (oi := { dst := some 66, op := Op.binOp BinOp.eql 24 (Operand.tmp 65) (Operand.const (Value.int IntKind.i64 0)) 24, type := 4, pos := "law.go:33", after := #[{ on := 0, ground := Ground.data }], guard := none }) (v := ?_) rfl (by kernel_rfl) (by kernel_rfl) (by kernel_rfl) (by decide) (fun _ _ _ h => h) (Or.inl ⟨by rfl, ?_⟩) (.inl (by assumption)) ?_
    rotate_left
    · intro w hSw; go_simp; try with_reducible rfl
    try simp only [Act.put, List.setIfInBounds_toArray, List.set_cons_zero, List.set_cons_succ]
    refine wpAnyG_takeU (i := 2) (oi := { dst := some 67, op := Op.move (Operand.tmp 66), type := 4, pos := "law.go:33", after := #[{ on := 1, ground := Ground.data }], guard := none }) (v := ?_) rfl (by kernel_rfl) (by kernel_rfl) (by kernel_rfl) (by decide) (fun _ _ _ h => h) (Or.inl ⟨by rfl, ?_⟩) (.inl (by assumption)) ?_
    rotate_left
    · intro w hSw; go_simp; try with_reducible rfl
    try simp only [Act.put, List.setIfInBounds_toArray, List.set_cons_zero, List.set_cons_succ]
    refine wpAnyG_takeU (i := 3) (oi := { dst := some 68, op := Op.move (Operand.tmp 6), type := 24, pos := "law.go:33", after := #[{ on := 2, ground := Ground.guard }], guard := some (2, true) }) (v := ?_) rfl (by kernel_rfl) (by kernel_rfl) (by kernel_rfl) (by decide) (fun _ _ _ h => h) (Or.inl ⟨by rfl, ?_⟩) (.inl (by assumption)) ?_
    rotate_left
    · intro w hSw; go_simp; try with_reducible rfl
    try simp only [Act.put, List.setIfInBounds_toArray, List.set_cons_zero, List.set_cons_succ]
    refine wpAnyG_takeU (i := 4) (oi := { dst := some 69, op := Op.binOp BinOp.eql 24 (Operand.tmp 68) (Operand.const (Value.int IntKind.i64 0)) 24, type := 4, pos := "law.go:33", after := #[{ on := 3, ground := Ground.data }, { on := 2, ground := Ground.guard }], guard := some (2, true) }) (v := ?_) rfl (by kernel_rfl) (by kernel_rfl) (by kernel_rfl) (by decide) (fun _ _ _ h => h) (Or.inl ⟨by rfl, ?_⟩) (.inl (by assumption)) ?_
    rotate_left
    · intro w hSw; go_simp; try with_reducible rfl
    try simp only [Act.put, List.setIfInBounds_toArray, List.set_cons_zero, List.set_cons_succ]
    refine wpAnyG_takeU (i := 5) (oi := { dst := some 70, op := Op.pick (Operand.tmp 67) (Operand.tmp 69) (Operand.const (Value.bool false)), type := 4, pos := "law.go:33", after := #[{ on := 2, ground := Ground.data }, { on := 4, ground := Ground.data }], guard := none }) (v := ?_) rfl (by kernel_rfl) (by kernel_rfl) (by kernel_rfl) (by decide) (fun _ _ _ h => h) (Or.inl ⟨by rfl, ?_⟩) (.inl (by assumption)) ?_
    rotate_left
    · intro w hSw; go_simp; try with_reducible rfl
    try simp only [Act.put, List.setIfInBounds_toArray, List.set_cons_zero, List.set_cons_succ]
    refine wpAnyG_takeU (i := 6) (oi := { dst := some 71, op := Op.move (Operand.tmp 70), type := 4, pos := "law.go:33", after := #[{ on := 5, ground := Ground.data }, { on := 2, ground := Ground.chain }], guard := none }) (v := ?_) rfl (by kernel_rfl) (by kernel_rfl) (by kernel_rfl) (by decide) (fun _ _ _ h => h) (Or.inl ⟨by rfl, ?_⟩) (.inl (by assumption)) ?_
    rotate_left
    · intro w hSw; go_simp; try with_reducible rfl
    try simp only [Act.put, List.setIfInBounds_toArray, List.set_cons_zero, List.set_cons_succ]
    refine wpAnyG_takeU (i := 7) (oi := { dst := some 72, op := Op.move (Operand.tmp 9), type := 24, pos := "law.go:33", after := #[{ on := 6, ground := Ground.guard }], guard := some (6, true) }) (v := ?_) rfl (by kernel_rfl) (by kernel_rfl) (by kernel_rfl) (by decide) (fun _ _ _ h => h) (Or.inl ⟨by rfl, ?_⟩) (.inl (by assumption)) ?_
    rotate_left
    · intro w hSw; go_simp; try with_reducible rfl
    try simp only [Act.put, List.setIfInBounds_toArray, List.set_cons_zero, List.set_cons_succ]
    refine wpAnyG_takeU (i := 8) (oi := { dst := some 73, op := Op.binOp BinOp.eql 24 (Operand.tmp 72) (Operand.const (Value.int IntKind.i64 0)) 24, type := 4, pos := "law.go:33", after := #[{ on := 7, ground := Ground.data }, { on := 6, ground := Ground.guard }], guard := some (6, true) }) (v := ?_) rfl (by kernel_rfl) (by kernel_rfl) (by kernel_rfl) (by decide) (fun _ _ _ h => h) (Or.inl ⟨by rfl, ?_⟩) (.inl (by assumption)) ?_
    rotate_left
    · intro w hSw; go_simp; try with_reducible rfl
    try simp only [Act.put, List.setIfInBounds_toArray, List.set_cons_zero, List.set_cons_succ]
    refine wpAnyG_takeU (i := 9) (oi := { dst := some 74, op := Op.pick (Operand.tmp 71) (Operand.tmp 73) (Operand.const (Value.bool false)), type := 4, pos := "law.go:33", after := #[{ on := 6, ground := Ground.data }, { on := 8, ground := Ground.data }], guard := none }) (v := ?_) rfl (by kernel_rfl) (by kernel_rfl) (by kernel_rfl) (by decide) (fun _ _ _ h => h) (Or.inl ⟨by rfl, ?_⟩) (.inl (by assumption)) ?_
    rotate_left
    · intro w hSw; go_simp; try with_reducible rfl
    try simp only [Act.put, List.setIfInBounds_toArray, List.set_cons_zero, List.set_cons_succ]
    refine wpAnyG_takeU (i := 10) (oi := { dst := some 75, op := Op.move (Operand.tmp 74), type := 4, pos := "law.go:33", after := #[{ on := 9, ground := Ground.data }, { on := 6, ground := Ground.chain }], guard := none }) (v := ?_) rfl (by kernel_rfl) (by kernel_rfl) (by kernel_rfl) (by decide) (fun _ _ _ h => h) (Or.inl ⟨by rfl, ?_⟩) (.inl (by assumption)) ?_
    rotate_left
    · intro w hSw; go_simp; try with_reducible rfl
    try simp only [Act.put, List.setIfInBounds_toArray, List.set_cons_zero, List.set_cons_succ]
    refine wpAnyG_takeM (i := 11) (oi := { dst := some 76, op := Op.load 49 (Operand.tmp 8), type := 49, pos := "law.go:33", after := #[{ on := 10, ground := Ground.guard }], guard := some (10, true) }) (v := ?_) (ms := [13, 14, 15, 16, 17, 18, 19, 20, 21, 22, 23, 24, 25, 26, 27, 28, 29, 30, 31, 32, 33, 34, 35, 36, 37, 38, 39]) rfl (by kernel_rfl) (by kernel_rfl) (by kernel_rfl) (by kernel_rfl) (by kernel_rfl) (fun _ _ _ h => h) (Or.inl ⟨by rfl, ?_⟩) (by assumption) ?_
    rotate_left
    · intro w hSw; (try dsimp only at hSw); go_simp; try with_reducible rfl
    try simp only [Act.put, List.setIfInBounds_toArray, List.set_cons_zero, List.set_cons_succ]
    refine wpAnyG_takeM (i := 12) (oi := { dst := some 77, op := Op.load 49 (Operand.tmp 1), type := 49, pos := "law.go:33", after := #[{ on := 10, ground := Ground.guard }], guard := some (10, true) }) (v := ?_) (ms := [13, 14, 15, 16, 17, 18, 19, 20, 21, 22, 23, 24, 25, 26, 27, 28, 29, 30, 31, 32, 33, 34, 35, 36, 37, 38, 39]) rfl (by kernel_rfl) (by kernel_rfl) (by kernel_rfl) (by kernel_rfl) (by kernel_rfl) (fun _ _ _ h => h) (Or.inl ⟨by rfl, ?_⟩) (by assumption) ?_
    rotate_left
    · intro w hSw; (try dsimp only at hSw); go_simp; try with_reducible rfl
    try simp only [Act.put, List.setIfInBounds_toArray, List.set_cons_zero, List.set_cons_succ]
    refine wpAnyG_takeU (i := 13) (oi := { dst := some 78, op := Op.binOp BinOp.eql 49 (Operand.tmp 76) (Operand.tmp 77) 49, type := 4, pos := "law.go:33", after := #[{ on := 11, ground := Ground.data }, { on := 12, ground := Ground.data }, { on := 10, ground := Ground.guard }], guard := some (10, true) }) (v := ?_) rfl (by kernel_rfl) (by kernel_rfl) (by kernel_rfl) (by decide) (fun _ _ _ h => h) (Or.inl ⟨by rfl, ?_⟩) (.inl (by assumption)) ?_
    rotate_left
    · intro w hSw; go_simp; try with_reducible rfl
    try simp only [Act.put, List.setIfInBounds_toArray, List.set_cons_zero, List.set_cons_succ]
    refine wpAnyG_takeU (i := 14) (oi := { dst := some 79, op := Op.pick (Operand.tmp 75) (Operand.tmp 78) (Operand.const (Value.bool false)), type := 4, pos := "law.go:33", after := #[{ on := 10, ground := Ground.data }, { on := 13, ground := Ground.data }], guard := none }) (v := ?_) rfl (by kernel_rfl) (by kernel_rfl) (by kernel_rfl) (by decide) (fun _ _ _ h => h) (Or.inl ⟨by rfl, ?_⟩) (.inl (by assumption)) ?_
    rotate_left
    · intro w hSw; go_simp; try with_reducible rfl
    try simp only [Act.put, List.setIfInBounds_toArray, List.set_cons_zero, List.set_cons_succ]
    refine wpAnyG_takeU (i := 15) (oi := { dst := some 80, op := Op.move (Operand.tmp 79), type := 4, pos := "law.go:33", after := #[{ on := 14, ground := Ground.data }, { on := 10, ground := Ground.chain }], guard := none }) (v := ?_) rfl (by kernel_rfl) (by kernel_rfl) (by kernel_rfl) (by decide) (fun _ _ _ h => h) (Or.inl ⟨by rfl, ?_⟩) (.inl (by assumption)) ?_
    rotate_left
    · intro w hSw; go_simp; try with_reducible rfl
    try simp only [Act.put, List.setIfInBounds_toArray, List.set_cons_zero, List.set_cons_succ]
    refine wpAnyG_takeU (i := 16) (oi := { dst := some 81, op := Op.move (Operand.tmp 3), type := 38, pos := "law.go:33", after := #[{ on := 15, ground := Ground.guard }], guard := some (15, true) }) (v := ?_) rfl (by kernel_rfl) (by kernel_rfl) (by kernel_rfl) (by decide) (fun _ _ _ h => h) (Or.inl ⟨by rfl, ?_⟩) (.inl (by assumption)) ?_
    rotate_left
    · intro w hSw; go_simp; try with_reducible rfl
    try simp only [Act.put, List.setIfInBounds_toArray, List.set_cons_zero, List.set_cons_succ]
    refine wpAnyG_one (i := 17) (o := { dst := some 82, op := Op.call { callee := Callee.builtin Builtin.len, args := #[Operand.tmp 81], argTypes := #[38] }, type := 3, pos := "law.go:33", after := #[{ on := 16, ground := Ground.data }, { on := 15, ground := Ground.guard }], guard := some (15, true) }) (by kernel_rfl) rfl (fun K hK => ?_)
    go_simp
    refine hK.out _ _ (.inl (by assumption)) ?_
    clear hK K
    try simp only [Act.put, List.setIfInBounds_toArray, List.set_cons_zero, List.set_cons_succ]
    refine wpAnyG_takeU (i := 18) (oi := { dst := some 83, op := Op.binOp BinOp.eql 3 (Operand.tmp 82) (Operand.const (Value.int IntKind.i64 63)) 3, type := 4, pos := "law.go:33", after := #[{ on := 17, ground := Ground.data }, { on := 15, ground := Ground.guard }], guard := some (15, true) }) (v := ?_) rfl (by kernel_rfl) (by kernel_rfl) (by kernel_rfl) (by decide) (fun _ _ _ h => h) (Or.inl ⟨by rfl, ?_⟩) (.inl (by assumption)) ?_
    rotate_left
    · intro w hSw; go_simp; try with_reducible rfl
    try simp only [Act.put, List.setIfInBounds_toArray, List.set_cons_zero, List.set_cons_succ]
    refine wpAnyG_takeU (i := 19) (oi := { dst := some 84, op := Op.pick (Operand.tmp 80) (Operand.tmp 83) (Operand.const (Value.bool false)), type := 4, pos := "law.go:33", after := #[{ on := 15, ground := Ground.data }, { on := 18, ground := Ground.data }], guard := none }) (v := ?_) rfl (by kernel_rfl) (by kernel_rfl) (by kernel_rfl) (by decide) (fun _ _ _ h => h) (Or.inl ⟨by rfl, ?_⟩) (.inl (by assumption)) ?_
    rotate_left
    · intro w hSw; go_simp; try with_reducible rfl
    try simp only [Act.put, List.setIfInBounds_toArray, List.set_cons_zero, List.set_cons_succ]
    refine wpAnyG_takeU (i := 20) (oi := { dst := some 85, op := Op.move (Operand.tmp 84), type := 4, pos := "law.go:33", after := #[{ on := 19, ground := Ground.data }, { on := 15, ground := Ground.chain }], guard := none }) (v := ?_) rfl (by kernel_rfl) (by kernel_rfl) (by kernel_rfl) (by decide) (fun _ _ _ h => h) (Or.inl ⟨by rfl, ?_⟩) (.inl (by assumption)) ?_
    rotate_left
    · intro w hSw; go_simp; try with_reducible rfl
    try simp only [Act.put, List.setIfInBounds_toArray, List.set_cons_zero, List.set_cons_succ]
    refine wpAnyG_takeU (i := 21) (oi := { dst := some 86, op := Op.move (Operand.tmp 3), type := 38, pos := "law.go:33", after := #[{ on := 20, ground := Ground.guard }], guard := some (20, true) }) (v := ?_) rfl (by kernel_rfl) (by kernel_rfl) (by kernel_rfl) (by decide) (fun _ _ _ h => h) (Or.inl ⟨by rfl, ?_⟩) (.inl (by assumption)) ?_
    rotate_left
    · intro w hSw; go_simp; try with_reducible rfl
    try simp only [Act.put, List.setIfInBounds_toArray, List.set_cons_zero, List.set_cons_succ]
    refine wpAnyG_takeM (i := 22) (oi := { dst := some 87, op := Op.convert 38 9 (Operand.tmp 86), type := 9, pos := "law.go:33", after := #[{ on := 21, ground := Ground.data }, { on := 20, ground := Ground.guard }], guard := some (20, true) }) (v := ?_) (ms := [26, 27, 28, 29, 30, 31, 32, 33, 34, 35, 36, 37, 38, 39]) rfl (by kernel_rfl) (by kernel_rfl) (by kernel_rfl) (by kernel_rfl) (by kernel_rfl) (fun _ _ _ h => h) (Or.inl ⟨by rfl, ?_⟩) (by assumption) ?_
    rotate_left
    · intro w hSw; (try dsimp only at hSw); go_simp; try with_reducible rfl
    try simp only [Act.put, List.setIfInBounds_toArray, List.set_cons_zero, List.set_cons_succ]
    refine wpAnyG_takeM (i := 23) (oi := { dst := some 88, op := Op.load 49 (Operand.tmp 1), type := 49, pos := "law.go:33", after := #[{ on := 20, ground := Ground.guard }], guard := some (20, true) }) (v := ?_) (ms := [24, 25, 26, 27, 28, 29, 30, 31, 32, 33, 34, 35, 36, 37, 38, 39]) rfl (by kernel_rfl) (by kernel_rfl) (by kernel_rfl) (by kernel_rfl) (by kernel_rfl) (fun _ _ _ h => h) (Or.inl ⟨by rfl, ?_⟩) (by assumption) ?_
    rotate_left
    · intro w hSw; (try dsimp only at hSw); go_simp; try with_reducible rfl
    try simp only [Act.put, List.setIfInBounds_toArray, List.set_cons_zero, List.set_cons_succ]
    refine wpAnyG_one (i := 24) (o := { dst := some 89, op := Op.call { callee := Callee.value (Operand.func 31), args := #[Operand.tmp 88], argTypes := #[49] }, type := 38, pos := "law.go:33", after := #[{ on := 23, ground := Ground.data }, { on := 20, ground := Ground.chain }, { on := 20, ground := Ground.guard }], guard := some (20, true) }) (by kernel_rfl) rfl (fun K hK => ?_)
    go_simp
    go_at_call 31
    refine (HRB.out _).mono ?_
    rintro e wn ⟨v2, rfl, ho2, hbn⟩
    have HO2 := Lib.hid (BS.of_own ho2)
    clear ho2
    have HB := Lib.hid (HB.out.trans (hbn.mono HB.out.size))
    have HR := Lib.hid ((hbn.block _ (block_lt HR.out)).trans HR.out)
    have HR8 := Lib.hid ((hbn.block _ (block_lt HR8.out)).trans HR8.out)
    have HOB := Lib.hid (HOB.out.below hbn)
    have HOK := Lib.hid (HOK.out.below hbn)
    clear hbn
    have hHeld := (show ((loL 10 wn w.heap.size 0 = [.int .i64 x.d, .int .u64 x.t, .int .i64 x.s, .int .i64 x.k, .int .i64 x.a0, .int .i64 x.a1, .int .i64 x.a2, .int .i64 x.a3, .int .i64 x.a4, .int .i64 x.a5] ∧ okL 10 wn w.heap.size 0) ∧ (loL 10 wn g8 0 = [.int .i64 x.d, .int .u64 x.t, .int .i64 x.s, .int .i64 x.k, .int .i64 x.a0, .int .i64 x.a1, .int .i64 x.a2, .int .i64 x.a3, .int .i64 x.a4, .int .i64 x.a5] ∧ okL 10 wn g8 0)) ∧ (convert 38 9 (.slice qb 63 cb)).run Tryd.prog wn = .ok (.string S) wn ∧ (convert 38 9 (.slice qk (keyP x).length ck)).run Tryd.prog wn = .ok (.string KS) wn ∧ (convert 38 9 (.slice qb 10 cb)).run Tryd.prog wn = .ok (.string KS) wn from ⟨⟨row_loT 10 HR.out rfl rfl, row_loT 10 HR8.out rfl rfl⟩, HSV.out _ _ HOB.out, HKV.out _ _ HOK.out, HKV.out _ _ (HTK.out _ HOB.out)⟩)
    refine hK.out _ _ (.inl hHeld) ?_
    clear hK K
    try simp only [Act.put, List.setIfInBounds_toArray, List.set_cons_zero, List.set_cons_succ]
    refine wpAnyG_one (i := 25) (o := { dst := some 90, op := Op.convert 38 9 (Operand.tmp 89), type := 9, pos := "law.go:33", after := #[{ on := 24, ground := Ground.data }, { on := 20, ground := Ground.guard }], guard := some (20, true) }) (by kernel_rfl) rfl (fun K hK => ?_)
    have hcv := HSV.out _ _ HO2.out
    go_simp
    refine hK.out _ _ (.inl hHeld) ?_
    clear hK K
    try simp only [Act.put, List.setIfInBounds_toArray, List.set_cons_zero, List.set_cons_succ]
    clear hcv
    refine wpAnyG_takeU (i := 26) (oi := { dst := some 91, op := Op.binOp BinOp.eql 9 (Operand.tmp 87) (Operand.tmp 90) 9, type := 4, pos := "law.go:33", after := #[{ on := 22, ground := Ground.data }, { on := 25, ground := Ground.data }, { on := 20, ground := Ground.guard }], guard := some (20, true) }) (v := ?_) rfl (by kernel_rfl) (by kernel_rfl) (by kernel_rfl) (by decide) (fun _ _ _ h => h) (Or.inl ⟨by rfl, ?_⟩) (.inl (by assumption)) ?_
    rotate_left
    · intro w hSw; go_simp; try with_reducible rfl
    try simp only [Act.put, List.setIfInBounds_toArray, List.set_cons_zero, List.set_cons_succ]
    refine wpAnyG_takeU (i := 27) (oi := { dst := some 92, op := Op.pick (Operand.tmp 85) (Operand.tmp 91) (Operand.const (Value.bool false)), type := 4, pos := "law.go:33", after := #[{ on := 20, ground := Ground.data }, { on := 26, ground := Ground.data }], guard := none }) (v := ?_) rfl (by kernel_rfl) (by kernel_rfl) (by kernel_rfl) (by decide) (fun _ _ _ h => h) (Or.inl ⟨by rfl, ?_⟩) (.inl (by assumption)) ?_
    rotate_left
    · intro w hSw; go_simp; try with_reducible rfl
    try simp only [Act.put, List.setIfInBounds_toArray, List.set_cons_zero, List.set_cons_succ]
    refine wpAnyG_takeU (i := 28) (oi := { dst := some 93, op := Op.move (Operand.tmp 92), type := 4, pos := "law.go:33", after := #[{ on := 27, ground := Ground.data }, { on := 24, ground := Ground.chain }], guard := none }) (v := ?_) rfl (by kernel_rfl) (by kernel_rfl) (by kernel_rfl) (by decide) (fun _ _ _ h => h) (Or.inl ⟨by rfl, ?_⟩) (.inl (by assumption)) ?_
    rotate_left
    · intro w hSw; go_simp; try with_reducible rfl
    try simp only [Act.put, List.setIfInBounds_toArray, List.set_cons_zero, List.set_cons_succ]
    refine wpAnyG_takeU (i := 29) (oi := { dst := some 94, op := Op.move (Operand.tmp 5), type := 38, pos := "law.go:33", after := #[{ on := 28, ground := Ground.guard }], guard := some (28, true) }) (v := ?_) rfl (by kernel_rfl) (by kernel_rfl) (by kernel_rfl) (by decide) (fun _ _ _ h => h) (Or.inl ⟨by rfl, ?_⟩) (.inl (by assumption)) ?_
    rotate_left
    · intro w hSw; go_simp; try with_reducible rfl
    try simp only [Act.put, List.setIfInBounds_toArray, List.set_cons_zero, List.set_cons_succ]
    refine wpAnyG_takeM (i := 30) (oi := { dst := some 95, op := Op.convert 38 9 (Operand.tmp 94), type := 9, pos := "law.go:33", after := #[{ on := 29, ground := Ground.data }, { on := 28, ground := Ground.guard }], guard := some (28, true) }) (v := ?_) (ms := [34, 35, 36, 37, 38, 39]) rfl (by kernel_rfl) (by kernel_rfl) (by kernel_rfl) (by kernel_rfl) (by kernel_rfl) (fun _ _ _ h => h) (Or.inl ⟨by rfl, ?_⟩) (by assumption) ?_
    rotate_left
    · intro w hSw; (try dsimp only at hSw); go_simp; try with_reducible rfl
    try simp only [Act.put, List.setIfInBounds_toArray, List.set_cons_zero, List.set_cons_succ]
    refine wpAnyG_takeU (i := 31) (oi := { dst := some 96, op := Op.move (Operand.tmp 3), type := 38, pos := "law.go:33", after := #[{ on := 28, ground := Ground.guard }], guard := some (28, true) }) (v := ?_) rfl (by kernel_rfl) (by kernel_rfl) (by kernel_rfl) (by decide) (fun _ _ _ h => h) (Or.inl ⟨by rfl, ?_⟩) (.inl (by assumption)) ?_
    rotate_left
    · intro w hSw; go_simp; try with_reducible rfl
    try simp only [Act.put, List.setIfInBounds_toArray, List.set_cons_zero, List.set_cons_succ]
    refine wpAnyG_takeU (i := 32) (oi := { dst := some 97, op := Op.slice 38 (Operand.tmp 96) none (some (Operand.const (Value.int IntKind.i64 10))) none, type := 38, pos := "law.go:33", after := #[{ on := 31, ground := Ground.data }, { on := 28, ground := Ground.guard }], guard := some (28, true) }) (v := ?_) rfl (by kernel_rfl) (by kernel_rfl) (by kernel_rfl) (by decide) (fun _ _ _ h => h) (Or.inl ⟨by rfl, ?_⟩) (.inl (by assumption)) ?_
    rotate_left
    · intro w hSw; go_simp; try with_reducible rfl
    try simp only [Act.put, List.setIfInBounds_toArray, List.set_cons_zero, List.set_cons_succ]
    refine wpAnyG_takeM (i := 33) (oi := { dst := some 98, op := Op.convert 38 9 (Operand.tmp 97), type := 9, pos := "law.go:33", after := #[{ on := 32, ground := Ground.data }, { on := 28, ground := Ground.guard }], guard := some (28, true) }) (v := ?_) (ms := [34, 35, 36, 37, 38, 39]) rfl (by kernel_rfl) (by kernel_rfl) (by kernel_rfl) (by kernel_rfl) (by kernel_rfl) (fun _ _ _ h => h) (Or.inl ⟨by rfl, ?_⟩) (by assumption) ?_
    rotate_left
    · intro w hSw; (try dsimp only at hSw); go_simp; try with_reducible rfl
    try simp only [Act.put, List.setIfInBounds_toArray, List.set_cons_zero, List.set_cons_succ]
    refine wpAnyG_takeU (i := 34) (oi := { dst := some 99, op := Op.binOp BinOp.eql 9 (Operand.tmp 95) (Operand.tmp 98) 9, type := 4, pos := "law.go:33", after := #[{ on := 30, ground := Ground.data }, { on := 33, ground := Ground.data }, { on := 28, ground := Ground.guard }], guard := some (28, true) }) (v := ?_) rfl (by kernel_rfl) (by kernel_rfl) (by kernel_rfl) (by decide) (fun _ _ _ h => h) (Or.inl ⟨by rfl, ?_⟩) (.inl (by assumption)) ?_
    rotate_left
    · intro w hSw; go_simp; try with_reducible rfl
    try simp only [Act.put, List.setIfInBounds_toArray, List.set_cons_zero, List.set_cons_succ]
    refine wpAnyG_takeU (i := 35) (oi := { dst := some 100, op := Op.pick (Operand.tmp 93) (Operand.tmp 99) (Operand.const (Value.bool false)), type := 4, pos := "law.go:33", after := #[{ on := 28, ground := Ground.data }, { on := 34, ground := Ground.data }], guard := none }) (v := ?_) rfl (by kernel_rfl) (by kernel_rfl) (by kernel_rfl) (by decide) (fun _ _ _ h => h) (Or.inl ⟨by rfl, ?_⟩) (.inl (by assumption)) ?_
    rotate_left
    · intro w hSw; go_simp; try with_reducible rfl
    try simp only [Act.put, List.setIfInBounds_toArray, List.set_cons_zero, List.set_cons_succ]
    refine wpAnyG_takeU (i := 36) (oi := { dst := some 101, op := Op.move (Operand.tmp 100), type := 4, pos := "law.go:33", after := #[{ on := 35, ground := Ground.data }, { on := 28, ground := Ground.chain }], guard := none }) (v := ?_) rfl (by kernel_rfl) (by kernel_rfl) (by kernel_rfl) (by decide) (fun _ _ _ h => h) (Or.inl ⟨by rfl, ?_⟩) (.inl (by assumption)) ?_
    rotate_left
    · intro w hSw; go_simp; try with_reducible rfl
    try simp only [Act.put, List.setIfInBounds_toArray, List.set_cons_zero, List.set_cons_succ]
    refine wpAnyG_one (i := 37) (o := { dst := some 102, op := Op.call { callee := Callee.value (Operand.func 29), args := #[], argTypes := #[] }, type := 4, pos := "law.go:33", after := #[{ on := 36, ground := Ground.chain }, { on := 36, ground := Ground.guard }], guard := some (36, true) }) (by kernel_rfl) rfl (fun K hK => ?_)
    go_simp
    go_at_call 29
    refine (HKN.out _).mono ?_
    rintro e wn ⟨rfl, hbn⟩
    have HB := Lib.hid (HB.out.trans (hbn.mono HB.out.size))
    have HR := Lib.hid ((hbn.block _ (block_lt HR.out)).trans HR.out)
    have HR8 := Lib.hid ((hbn.block _ (block_lt HR8.out)).trans HR8.out)
    have HOB := Lib.hid (HOB.out.below hbn)
    have HOK := Lib.hid (HOK.out.below hbn)
    clear hbn
    have hHeld := (show ((loL 10 wn w.heap.size 0 = [.int .i64 x.d, .int .u64 x.t, .int .i64 x.s, .int .i64 x.k, .int .i64 x.a0, .int .i64 x.a1, .int .i64 x.a2, .int .i64 x.a3, .int .i64 x.a4, .int .i64 x.a5] ∧ okL 10 wn w.heap.size 0) ∧ (loL 10 wn g8 0 = [.int .i64 x.d, .int .u64 x.t, .int .i64 x.s, .int .i64 x.k, .int .i64 x.a0, .int .i64 x.a1, .int .i64 x.a2, .int .i64 x.a3, .int .i64 x.a4, .int .i64 x.a5] ∧ okL 10 wn g8 0)) ∧ (convert 38 9 (.slice qb 63 cb)).run Tryd.prog wn = .ok (.string S) wn ∧ (convert 38 9 (.slice qk (keyP x).length ck)).run Tryd.prog wn = .ok (.string KS) wn ∧ (convert 38 9 (.slice qb 10 cb)).run Tryd.prog wn = .ok (.string KS) wn from ⟨⟨row_loT 10 HR.out rfl rfl, row_loT 10 HR8.out rfl rfl⟩, HSV.out _ _ HOB.out, HKV.out _ _ HOK.out, HKV.out _ _ (HTK.out _ HOB.out)⟩)
    refine hK.out _ _ (.inl hHeld) ?_
    clear hK K
    try simp only [Act.put, List.setIfInBounds_toArray, List.set_cons_zero, List.set_cons_succ]
    refine wpAnyG_takeU (i := 38) (oi := { dst := some 103, op := Op.pick (Operand.tmp 101) (Operand.tmp 102) (Operand.const (Value.bool false)), type := 4, pos := "law.go:33", after := #[{ on := 36, ground := Ground.data }, { on := 37, ground := Ground.data }], guard := none }) (v := ?_) rfl (by kernel_rfl) (by kernel_rfl) (by kernel_rfl) (by decide) (fun _ _ _ h => h) (Or.inl ⟨by rfl, ?_⟩) (.inl (by assumption)) ?_
    rotate_left
    · intro w hSw; go_simp; try with_reducible rfl
    try simp only [Act.put, List.setIfInBounds_toArray, List.set_cons_zero, List.set_cons_succ]
    refine wpAnyG_one (i := 39) (o := { dst := some 2, op := Op.assign (Operand.tmp 103), type := 4, pos := "law.go:33", after := #[{ on := 38, ground := Ground.data }, { on := 37, ground := Ground.chain }, { on := 0, ground := Ground.phase }, { on := 1, ground := Ground.phase }, { on := 2, ground := Ground.phase }, { on := 3, ground := Ground.phase }, { on := 4, ground := Ground.phase }, { on := 5, ground := Ground.phase }, { on := 6, ground := Ground.phase }, { on := 7, ground := Ground.phase }, { on := 8, ground := Ground.phase }, { on := 9, ground := Ground.phase }, { on := 10, ground := Ground.phase }, { on := 11, ground := Ground.phase }, { on := 12, ground := Ground.phase }, { on := 13, ground := Ground.phase }, { on := 14, ground := Ground.phase }, { on := 15, ground := Ground.phase }, { on := 16, ground := Ground.phase }, { on := 17, ground := Ground.phase }, { on := 18, ground := Ground.phase }, { on := 19, ground := Ground.phase }, { on := 20, ground := Ground.phase }, { on := 21, ground := Ground.phase }, { on := 22, ground := Ground.phase }, { on := 23, ground := Ground.phase }, { on := 24, ground := Ground.phase }, { on := 25, ground := Ground.phase }, { on := 26, ground := Ground.phase }, { on := 27, ground := Ground.phase }, { on := 28, ground := Ground.phase }, { on := 29, ground := Ground.phase }, { on := 30, ground := Ground.phase }, { on := 31, ground := Ground.phase }, { on := 32, ground := Ground.phase }, { on := 33, ground := Ground.phase }, { on := 34, ground := Ground.phase }, { on := 35, ground := Ground.phase }, { on := 36, ground := Ground.phase }, { on := 37, ground := Ground.phase }, { on := 38, ground := Ground.phase }], guard := none }) (by kernel_rfl) rfl (fun K hK => ?_)
    go_simp
    refine hK.out _ _ (.inr rfl) ?_
    clear hK K
    try simp only [Act.put, List.setIfInBounds_toArray, List.set_cons_zero, List.set_cons_succ]
    refine wpAnyG_done (by kernel_rfl) ?_ _
    clear hHeld
    go_wp2
    go_ret
    exact ⟨rfl, HB.out⟩
theorem tab_met {W : World} (h : laidMetH Tryd.prog Rows.postingBytesRow.laid W) : Tab W := by
  rw [MakeChecks.laidMetH_plain _ _ _ (by kernel_rfl)] at h
  exact tab_of_laid h (by simp [Rows.postingBytesRow])
theorem door_met (os : Os) (args : Array Value) : laidMetH Tryd.prog Rows.postingBytesRow.laid ((World.doorLaid Tryd.prog 24 os).forCall (fun _ _ => 0) ⟨#[], args, []⟩).memory :=
  laidMetH_of_parts3 (fuel := 8) (laidMet_of_run' 8 (by kernel_rfl) (by kernel_rfl)) (by kernel_rfl) (by kernel_rfl)
set_option maxRecDepth 100000 in
theorem lifted (os : Os) (started : os.Started) (H : Type) (enc : TypeId × Value → H) :
    ReturnsInHanded {} Tryd.checked os 7 .any (fun w args => (Rows.postingBytesSpec.pre enc Tryd.prog Tryd.f7 [] false w args ∧ laidMetH Tryd.prog Rows.postingBytesRow.laid w) ∧ sizedMet enc Tryd.prog Tryd.f7 (OpenSpec.ofChange Rows.postingBytesSpec) false w args)
      (Rows.postingBytesSpec.post enc Tryd.prog Tryd.f7 false true false false) := by
  refine returnsInHanded_of_change_and (C := Tryd.checked) (X := fun w _ => laidMetH Tryd.prog Rows.postingBytesRow.laid w) (fun _ _ _ hh h => h.of_heap hh) own started (by kernel_rfl) Tryd.func7
    (ChangeSpec.witness_shaped (enc := enc) (C := Tryd.checked) (os := os) (X := fun w _ => laidMetH Tryd.prog Rows.postingBytesRow.laid w) false (World.doorLaid Tryd.prog 24 os) #[.agg #[.int .i64 0, .int .u64 0, .int .i64 0, .int .i64 0, .int .i64 0, .int .i64 0, .int .i64 0, .int .i64 0, .int .i64 0, .int .i64 0]] 8 rfl (World.shaped_of_RefB (by kernel_rfl) (by kernel_rfl)) (by kernel_rfl) (by kernel_rfl) (by kernel_rfl) (door_met os _)) ?_
  intro W base args ds gs before hval0 hW _ _ hL _
  have hval : ∀ (j : Nat) t v, Tryd.f7.params[j]? = some t → args[j]? = some v → Value.okWide Tryd.prog W .any base t v := hval0
  have hW' := hW
  obtain ⟨p, q, hA0, hV, rfl, hfz, hnd⟩ := hW
  have hA : DataW.TrodAll enc Tryd.prog W 0 (fun _ => true) true Tryd.f7.params.toList args.toList ds p := hA0
  rw [Tryd.params7] at hA hval
  obtain ⟨v0, vs0, d0, ds0, p0, q0, hargs, rfl, rfl, h0, r0⟩ := trodAll_cons hA
  obtain ⟨rfl, rfl, rfl⟩ := trodAll_nil r0
  obtain rfl : args = #[v0] := by cases args; simp_all
  obtain ⟨x, rfl, hx⟩ := open_postingO (hval 0 _ v0 rfl rfl) h0
  clear hA0 hval0
  refine (walk x hx W (tab_met hL)).mono fun e W' ⟨he, hg⟩ => ?_
  subst he
  exact ⟨_, rfl, post_law laidOut rfl hW' ⟨rfl, rfl, rfl⟩ (by kernel_rfl) hg Tryd.underlying4 rfl⟩

theorem row : Rows.PostingBytesSaid :=
  OpenClaim.holds_of_wide 7 Tryd.f7 rfl rfl rfl rfl rfl rfl rfl ⟨rfl, rfl, rfl, rfl, rfl⟩ rfl rfl rfl rfl rfl (by kernel_rfl) Tryd.func7 (by kernel_rfl)
    (of_decide_eq_true (by kernel_rfl)) (by unfold Func.isWrapper; first | (rw [if_pos (by decide +kernel)]; kernel_rfl) | (rw [if_neg (by decide +kernel)]; exact ⟨rfl, rfl⟩))
    (fun os started H enc _ => lifted os started H enc)
theorem proved : Rows.PostingBytesCardSaid :=
  Claim7.holds_tied_plain_at .later [] [.data, .data, .data] true Rows.postingBytesCard.stood.harness false
    row (fun _ h => by cases h) (by kernel_rfl) (fun _ h => by cases h) postingBytes_row_tie rfl ⟨rfl, rfl⟩ (by kernel_rfl) rfl
    (fun f fn hf hfn => by
      obtain rfl : f = 7 := Option.some.inj (hf.symm.trans (show Tryd.prog.funcNamed Rows.postingBytesRow.func = some 7 by kernel_rfl))
      obtain rfl : fn = Tryd.f7 := (Option.some.inj (Tryd.func7.symm.trans hfn)).symm
      exact ⟨by kernel_rfl, fun j t ht => by
        rw [Tryd.params7] at ht
        have hm := Array.mem_of_getElem? ht
        have hall : ((Tryd.f7).params.all fun u => !Tryd.prog.wantsStandIn u) = true := by kernel_rfl
        rw [Tryd.params7] at hall
        have h2 := Array.all_eq_true'.1 hall t hm
        exact (show Tryd.prog.wantsStandIn t = false by simpa using h2)⟩)
    (by kernel_rfl)
#print axioms proved
end Go.Proofs.YtellhmbebimenaaDoor.postingBytes
