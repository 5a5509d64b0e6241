/- Contract: a report's lines (report.Lines). -/
import Derived.Test.YtellhmbebimenaaDoorRt38
import Derived.Test.YtellhmbebimenaaDoorRt47
import Derived.Test.YtellhmbebimenaaDoorRt31
import Derived.Test.YtellhmbebimenaaDoorRt30

set_option linter.unusedVariables false
set_option linter.unusedSimpArgs false
namespace Go.Proofs.YtellhmbebimenaaDoor
open Go.RowKit

theorem pText_of (x : Pst) (hw : x.wf) (hm : x.may = true) (w : World) (ht : Tab w) :
    Calls Tryd.prog 26 #[.agg #[.int .i64 x.d, .int .u64 x.t, .int .i64 x.s, .int .i64 x.k, .int .i64 x.a0, .int .i64 x.a1, .int .i64 x.a2, .int .i64 x.a3, .int .i64 x.a4, .int .i64 x.a5]] w fun e w' => e = .returned (.string ⟨(Post.lineP x).toArray⟩) ∧ Below w.heap.size w w' := by
  have h0 := in_u64 hw.2.1
  have h := pText_any x.d x.t x.s x.k x.a0 x.a1 x.a2 x.a3 x.a4 x.a5 h0.1 h0.2 w ht
  unfold Post.textB at h
  rw [if_pos (show Post.may x.d x.t x.s x.k [x.a0, x.a1, x.a2, x.a3, x.a4, x.a5] = true from hm)] at h
  exact h
set_option maxRecDepth 8000 in
theorem pLines_no (a b : Int) (l : List Pst) (p : Option Addr) (n cap : Nat) (m x0 x1 x2 x3 x4 x5 : Int) (hbv : ¬ Rep.MayP a b l m [x0, x1, x2, x3, x4, x5]) (w : World) (hs : PS w (.slice p n cap) l) :
    Calls Tryd.prog 33 #[.agg #[.int .i64 a, .int .i64 b, (.slice p n cap), .int .i64 m, .int .i64 x0, .int .i64 x1, .int .i64 x2, .int .i64 x3, .int .i64 x4, .int .i64 x5]] w fun e w' => e = .returned (.slice none 0 0) ∧ Below w.heap.size w w' := by
  have HMY := Lib.hid (fun W h => pMay_any a b l p n cap m x0 x1 x2 x3 x4 x5 false (by simpa using hbv) W h)
  have HB := Lib.hid ((Below.refl w.heap.size w).alloc (Nat.le_refl _) (.cells #[.int .i64 a, .int .i64 b, (.slice p n cap), .int .i64 m, .int .i64 x0, .int .i64 x1, .int .i64 x2, .int .i64 x3, .int .i64 x4, .int .i64 x5] 61))
  have HS := Lib.hid (hs.below HB.out)
  have hc := fun j => cell_of_row _ w.heap.size j _ _ _ (new_rowW w (.cells #[.int .i64 a, .int .i64 b, (.slice p n cap), .int .i64 m, .int .i64 x0, .int .i64 x1, .int .i64 x2, .int .i64 x3, .int .i64 x4, .int .i64 x5] 61) _ rfl)
  clear hs hbv
  go_enter Tryd.func33, Tryd.ntmps33
  go_wp2_with fail
  refine (HMY.out _ HS.out).mono ?_
  rintro e w1 ⟨rfl, hb⟩
  go_wp2
  go_ret
  exact ⟨rfl, HB.out.trans (hb.mono HB.out.size)⟩
set_option maxRecDepth 8000 in
set_option maxHeartbeats 8000000 in
theorem pLines_yes (a b : Int) (l : List Pst) (p : Option Addr) (n cap : Nat) (m x0 x1 x2 x3 x4 x5 : Int) (hbv : Rep.MayP a b l m [x0, x1, x2, x3, x4, x5]) (hn60 : n ≤ 60) (hm : 0 ≤ m ∧ m ≤ 60) (hx : ∀ x ∈ [x0, x1, x2, x3, x4, x5], -9223372036854775808 ≤ x ∧ x ≤ 9223372036854775807) (w : World) (hs : PS w (.slice p n cap) l) (ht : Tab w) :
    Calls Tryd.prog 33 #[.agg #[.int .i64 a, .int .i64 b, (.slice p n cap), .int .i64 m, .int .i64 x0, .int .i64 x1, .int .i64 x2, .int .i64 x3, .int .i64 x4, .int .i64 x5]] w fun e w' => ∃ v, e = .returned v ∧ w'.ownsRow w.heap.size 9 1 v (n + 1) (encL StrC (Post.linesR l m [x0, x1, x2, x3, x4, x5])) ∧ Below w.heap.size w w' := by
  have HMY := Lib.hid (fun W h => pMay_any a b l p n cap m x0 x1 x2 x3 x4 x5 true (by simpa using hbv) W h)
  have HPS := Lib.hid hs; have HN := Lib.hid (ps_len hs).1
  have hn1 := (ps_len hs).2.1
  have hn2 := (ps_len hs).2.2
  have HT := Lib.hid ht
  have HTX : Hid (∀ x ∈ l, ∀ W : World, Tab W → Calls Tryd.prog 26 #[.agg #[.int .i64 x.d, .int .u64 x.t, .int .i64 x.s, .int .i64 x.k, .int .i64 x.a0, .int .i64 x.a1, .int .i64 x.a2, .int .i64 x.a3, .int .i64 x.a4, .int .i64 x.a5]] W fun e w' => e = .returned (.string ⟨(Post.lineP x).toArray⟩) ∧ Below W.heap.size W w') := Lib.hid (fun x hx W hW => pText_of x (ps_wf hs x hx) (hbv.2.1.1 x hx) W hW)
  have HIM := Lib.hid (fun W hW => itoa_any m (by omega) (by omega) W hW)
  obtain ⟨am, hamd⟩ : ∃ am, am = [x0, x1, x2, x3, x4, x5] := ⟨_, rfl⟩
  have hal : am.length = 6 := by rw [hamd]; rfl
  rw [← hamd] at hx
  have HA : Hid (∀ j, -9223372036854775808 ≤ am.getD j 0 ∧ am.getD j 0 ≤ 9223372036854775807) := Lib.hid (fun j => by
    rw [List.getD_eq_getElem?_getD]
    rcases Nat.lt_or_ge j am.length with h | h
    · rw [List.getElem?_eq_getElem h]; exact hx _ (List.getElem_mem h)
    · rw [List.getElem?_eq_none h]; simp)
  have HAMC : Hid (#[.int .i64 x0, .int .i64 x1, .int .i64 x2, .int .i64 x3, .int .i64 x4, .int .i64 x5] = (Post.amRow am : Array Value)) := Lib.hid (by rw [hamd]; rfl)
  have HLEN := Lib.hid (Post.totJ_len m am (by omega) hx)
  have HPL := Lib.hid (Post.tparts_len am)
  have HPT := Lib.hid (Post.tparts_succ am)
  have HLR : Hid (Post.linesR l m [x0, x1, x2, x3, x4, x5] = l.map Post.lineP ++ [Post.totJ m am 6]) := Lib.hid (by rw [hamd]; rfl)
  have HTJ : Hid (∀ j, Post.totJ m am j = Lib.join ([Post.totW, Post.sdig m] ++ Post.tparts am j) [32]) := Lib.hid (fun j => rfl)
  have HSM := Post.sdig_len m (by omega)
  clear hbv hx hm hs ht hamd
  have HB0 := Lib.hid ((Below.refl w.heap.size w).alloc (Nat.le_refl _) (.cells #[.int .i64 a, .int .i64 b, (.slice p n cap), .int .i64 m, .int .i64 x0, .int .i64 x1, .int .i64 x2, .int .i64 x3, .int .i64 x4, .int .i64 x5] 61))
  have HRW := Lib.hid (new_rowW w (.cells #[.int .i64 a, .int .i64 b, (.slice p n cap), .int .i64 m, .int .i64 x0, .int .i64 x1, .int .i64 x2, .int .i64 x3, .int .i64 x4, .int .i64 x5] 61) _ rfl)
  go_enter Tryd.func33, Tryd.ntmps33
  go_upto_region 1 with fail
  generalize w.alloc (.cells #[.int .i64 a, .int .i64 b, (.slice p n cap), .int .i64 m, .int .i64 x0, .int .i64 x1, .int .i64 x2, .int .i64 x3, .int .i64 x4, .int .i64 x5] 61) = w0 at *
  have hc := fun j => cell_of_row w0 w.heap.size j _ _ _ HRW.out
  go_wp2_with fail
  clear hc
  refine (HMY.out _ (HPS.out.below HB0.out)).mono ?_
  rintro e w1 ⟨rfl, hb⟩
  have HB1 := Lib.hid (HB0.out.trans (hb.mono HB0.out.size))
  have HRW1 := Lib.hid ((hb.block _ (block_lt HRW.out)).trans HRW.out)
  clear hb HMY HRW HB0
  have hc := fun j => cell_of_row w1 w.heap.size j _ _ _ HRW1.out
  go_wp2_with fail
  go_loopw [16, 3] (fun i v wr => ∃ k : Nat, k ≤ n ∧ i = .int .i64 k ∧ wr.ownsRow w.heap.size 9 1 v k (encL StrC ((l.take k).map Post.lineP)) ∧ Below w.heap.size w wr ∧ wr.heap[w.heap.size]? = some (.cells #[.int .i64 a, .int .i64 b, (.slice p n cap), .int .i64 m, .int .i64 x0, .int .i64 x1, .int .i64 x2, .int .i64 x3, .int .i64 x4, .int .i64 x5] 61 (0, 0))) (fun i _ _ => n - (intOf i).toNat)
  case atStart => exact ⟨0, Nat.zero_le _, rfl, World.ownsRow_nil _ _ _ _, HB1.out, HRW1.out⟩
  case round =>
    obtain ⟨k, hk, rfl, hown, hbw, hra⟩ := hrel
    have HO := Lib.hid hown; have HBW := Lib.hid hbw; have HRA := Lib.hid hra
    clear hown hra HB1 HRW1 hc
    by_cases hlt : k < n
    · obtain ⟨x, hx⟩ : ∃ x, l[k]? = some x := ⟨_, List.getElem?_eq_getElem (by have := HN.out; omega)⟩
      obtain ⟨bb, o, rfl, hbl, hat⟩ := ps_at (HPS.out.below hbw) hx
      have HXT := Lib.hid (HTX.out x (List.mem_of_getElem? hx))
      have HT2 : Hid ((l.take (k + 1)).map Post.lineP = (l.take k).map Post.lineP ++ [Post.lineP x]) := Lib.hid (by
        rw [List.take_add_one, hx, List.map_append]; rfl)
      unfold PAt at hat
      obtain ⟨c0, c1, c2, c3, c4, c5, c6, c7, c8, c9⟩ := hat
      have hb0 := (Below.refl wr.heap.size wr).alloc (Nat.le_refl _) (.cells #[.int .i64 x.d, .int .u64 x.t, .int .i64 x.s, .int .i64 x.k, .int .i64 x.a0, .int .i64 x.a1, .int .i64 x.a2, .int .i64 x.a3, .int .i64 x.a4, .int .i64 x.a5] 49 (0, 0))
      have hrp := new_rowW wr (.cells #[.int .i64 x.d, .int .u64 x.t, .int .i64 x.s, .int .i64 x.k, .int .i64 x.a0, .int .i64 x.a1, .int .i64 x.a2, .int .i64 x.a3, .int .i64 x.a4, .int .i64 x.a5] 49 (0, 0)) _ rfl
      have HO1 := Lib.hid (recs_below HO.out hb0)
      have HB1 := Lib.hid (HBW.out.trans (hb0.mono HBW.out.size))
      have HRA1 := Lib.hid ((hb0.block _ (block_lt HRA.out)).trans HRA.out)
      clear hx hbw hb0
      go_upto_region 7 with fail
      clear c0 c1 c2 c3 c4 c5 c6 c7 c8 c9
      generalize wr.alloc (.cells #[.int .i64 x.d, .int .u64 x.t, .int .i64 x.s, .int .i64 x.k, .int .i64 x.a0, .int .i64 x.a1, .int .i64 x.a2, .int .i64 x.a3, .int .i64 x.a4, .int .i64 x.a5] 49 (0, 0)) = w2 at *
      generalize wr.heap.size = gp at *
      have hcp := fun j => cell_of_row w2 gp j _ _ _ hrp
      go_wp2_with fail
      refine (HXT.out _ (HT.out.below HB1.out)).mono ?_
      rintro e w3 ⟨rfl, hb3⟩
      have HO3 := Lib.hid (recs_below HO1.out hb3)
      have HB3 := Lib.hid (HB1.out.trans (hb3.mono HB1.out.size))
      have HRA3 := Lib.hid ((hb3.block _ (block_lt HRA1.out)).trans HRA1.out)
      clear hb3 hrp hcp HXT
      generalize hLP : Post.lineP x = LP at *
      go_wp2_with (at_builtin; refine wpList_append_recs elemSt rfl _ _ rfl w.heap.size _ _ _ rfl (recs_below HO3.out ((Below.refl _ _).alloc (Nat.le_refl _) _)) _ [LP] rfl (row_one (enc := StrC) (x := LP) (new_rowW _ _ _ rfl) rfl StrC_length (by decide)) (by simp <;> omega) (by have := HB3.out.size; simp <;> omega) ?_; intro v2 w4 hown2 hg2 hn2 hat2)
      have HO2 : Hid (w4.ownsRow w.heap.size 9 1 v2 (k + 1) (encL StrC ((l.take (k + 1)).map Post.lineP))) := Lib.hid (by
        rw [HT2.out]
        exact hown2)
      have HB2 := Lib.hid ((HB3.out.alloc HB3.out.size _).grown hg2 (by have := HB3.out.size; simp <;> omega) (fun b hb => (recs_base HO3.out hb).1))
      have n1 := own_neT HO3.out HRA3.out (by decide)
      have HRA2 := Lib.hid ((hg2.block _ (block_lt (row_allocW HRA3.out _)) (fun e => n1 _ e.symm rfl)).trans (row_allocW HRA3.out _))
      clear hown2 hg2 hn2 hat2 n1 hLP
      go_wp2
      go_roundw
      case rel => exact ⟨k + 1, by omega, by go_num, HO2.out, HB2.out, HRA2.out⟩
      case measure => simp [intOf]; omega
    · obtain rfl : k = n := by omega
      have hown := HO.out
      rw [List.take_of_length_le (by have := HN.out; omega)] at hown
      obtain ⟨qo, co, rfl⟩ := rec_formT hown
      have HOUT := Lib.hid hown
      clear hown hbw HO
      have hc := fun j => cell_of_row wr w.heap.size j _ _ _ HRA.out
      go_wp2_with fail
      clear hc
      refine (HIM.out _ (HT.out.below HBW.out)).mono ?_
      rintro e w2 ⟨rfl, hb2⟩
      replace HOUT := Lib.hid (recs_below HOUT.out hb2)
      have HB := Lib.hid (HBW.out.trans (hb2.mono HBW.out.size))
      replace HRA := Lib.hid ((hb2.block _ (block_lt HRA.out)).trans HRA.out)
      clear hb2 HBW
      have HLE : Hid (w.heap.size ≤ w2.heap.size) := Lib.hid HB.out.size
      have hc := fun j => cell_of_row w2 w.heap.size j _ _ _ HRA.out
      have hsd : (⟨(Post.sdig m).toArray⟩ : ByteArray).size ≤ 21 := by rw [size_string]; exact HSM
      generalize hSD : (⟨(Post.sdig m).toArray⟩ : ByteArray) = SD at *
      have HSD := Lib.hid hSD
      clear hSD
      go_upto_region 10 with fail
      clear hc
      have hbn := (Below.refl w2.heap.size w2).alloc (Nat.le_refl _) (.cells #[.string ⟨#[116, 111, 116, 97, 108]⟩, .string SD] 9)
      have HB2 := Lib.hid hbn
      have HO4 : Hid ((w2.alloc (.cells #[.string ⟨#[116, 111, 116, 97, 108]⟩, .string SD] 9)).ownsRow w2.heap.size 9 1 (.slice (some ⟨w2.heap.size, 0, none⟩) 2 2) 2 (encL StrC [Post.totW, Post.sdig m])) := Lib.hid (own_full (l := [Post.totW, Post.sdig m]) (new_rowW _ _ _ rfl) (Nat.le_refl _) StrC_length (by rw [← HSD.out]; rfl) (by decide) (by show 2 ≤ maxLen; unfold maxLen; decide))
      replace HRA := Lib.hid ((hbn.block _ (block_lt HRA.out)).trans HRA.out)
      clear hbn
      have HTB : Hid (∀ W, Below w2.heap.size w2 W → Tab W) := Lib.hid (fun W hW => HT.out.below (HB.out.trans (hW.mono HLE.out)))
      generalize hB2 : w2.heap.size = B2 at *
      have HBZ : Hid (B2 ≤ w2.heap.size) := Lib.hid (by omega)
      generalize w2.alloc (.cells #[.string ⟨#[116, 111, 116, 97, 108]⟩, .string SD] 9) = w4 at *
      have hc := fun j => cell_of_row w4 w.heap.size j _ _ _ HRA.out
      go_upto_region 11 with fail
      clear hc
      have hbn := (Below.refl w4.heap.size w4).alloc (Nat.le_refl _) (.cells #[.int .i64 m, .int .i64 x0, .int .i64 x1, .int .i64 x2, .int .i64 x3, .int .i64 x4, .int .i64 x5] 59)
      have HRT := Lib.hid (new_rowW w4 (.cells #[.int .i64 m, .int .i64 x0, .int .i64 x1, .int .i64 x2, .int .i64 x3, .int .i64 x4, .int .i64 x5] 59) _ rfl)
      replace HO4 := Lib.hid (recs_below HO4.out hbn)
      replace HB2 := Lib.hid (HB2.out.trans (hbn.mono (by have := HB2.out.size; have := HBZ.out; omega)))
      clear hbn
      generalize w4.alloc (.cells #[.int .i64 m, .int .i64 x0, .int .i64 x1, .int .i64 x2, .int .i64 x3, .int .i64 x4, .int .i64 x5] 59) = w5 at *
      generalize w4.heap.size = gt at *
      have hbn := (Below.refl w5.heap.size w5).alloc (Nat.le_refl _) (.cells #[.int .i64 x0, .int .i64 x1, .int .i64 x2, .int .i64 x3, .int .i64 x4, .int .i64 x5] 2)
      have HAM0 := Lib.hid (new_rowW w5 (.cells #[.int .i64 x0, .int .i64 x1, .int .i64 x2, .int .i64 x3, .int .i64 x4, .int .i64 x5] 2) _ rfl)
      have HO6 := Lib.hid (recs_below HO4.out hbn)
      have HB6 := Lib.hid (HB2.out.trans (hbn.mono (by have := HB2.out.size; have := HBZ.out; omega)))
      rw [HAMC.out] at HAM0 HO6 HB6
      clear hbn HB2 HO4
      have hct := fun j => cell_of_row w5 gt j _ _ _ HRT.out
      go_wp2_with fail
      clear hct
      rw [HAMC.out]
      generalize hW6 : w5.alloc (.cells (Post.amRow am) 2) = w6 at *
      generalize w5.heap.size = gam at *
      clear hW6
      have HHL : Hid (([Post.totW, Post.sdig m] : List (List UInt8)).length = 2) := Lib.hid rfl
      have HHA : Hid ([Post.totW, Post.sdig m] ++ Post.tparts am 0 = [Post.totW, Post.sdig m]) := Lib.hid (by rw [Post.tparts_zero, List.append_nil])
      have HTW := Lib.hid (fun W hW => HTB.out W hW)
      generalize ([Post.totW, Post.sdig m] : List (List UInt8)) = hds at *
      go_loopw [6, 47] (fun v i wr => ∃ (j nl : Nat) (q : Option Addr) (z : Nat), j ≤ 6 ∧ i = .int .i64 j ∧ v = .slice q nl z ∧ nl ≤ 8 ∧ wr.ownsRow B2 9 1 (.slice q nl z) nl (encL StrC (hds ++ Post.tparts am j)) ∧ Below B2 w2 wr ∧ wr.heap[gam]? = some (.cells (Post.amRow am) 2 (0, 0))) (fun _ i _ => 6 - (intOf i).toNat)
      case atStart => exact ⟨0, 2, _, _, by omega, rfl, rfl, by omega, by rw [HHA.out]; exact HO6.out, HB6.out, HAM0.out⟩
      case round =>
        obtain ⟨j, nl, q, zc, hj, rfl, rfl, hnl, ho, hb, hamr⟩ := hrel
        have HB2 := Lib.hid hb; have HO := Lib.hid ho; have HAM := Lib.hid hamr
        have HNL := Lib.hid hnl
        clear ho hnl hb hamr HB6 HAM0 HO6
        by_cases hlt : j < 6
        · have hix : wr.cell? ⟨gam, j, none⟩ = some (.int .i64 (am.getD j 0)) := (cell_of_row wr gam j _ _ _ HAM.out).trans (Post.amRow_at (by omega))
          have HFZ := Lib.hid (fun W hW => fint_any (am.getD j 0) (by have := HA.out j; omega) (by have := HA.out j; omega) W hW)
          have hzz : (⟨(Post.sdig (am.getD j 0)).toArray⟩ : ByteArray).size ≤ 21 := by rw [size_string]; exact Post.sdig_len _ (by have := HA.out j; omega)
          have HPJ := Lib.hid (HPT.out j)
          have HTP : Hid (Post.tpart am j = if am.getD j 0 = 0 then [] else [Post.letters.getD j 0 :: Post.sdig (am.getD j 0)]) := Lib.hid rfl
          generalize am.getD j 0 = z at *
          obtain ⟨nz, hnz⟩ : ∃ b, (z != 0) = b := ⟨_, rfl⟩
          cases nz
          · have HN : Hid (Post.tparts am (j + 1) = Post.tparts am j) := Lib.hid (by rw [HPJ.out, HTP.out, if_pos (by simpa using hnz)]; simp)
            clear hzz
            go_wp2_with fail
            go_roundw
            case rel => exact ⟨j + 1, nl, _, _, by omega, by go_num, rfl, HNL.out, by rw [HN.out]; exact HO.out, HB2.out, HAM.out⟩
            case measure => simp [intOf]; omega
          · have HTQ : Hid (Post.tparts am (j + 1) = Post.tparts am j ++ [Post.letters.getD j 0 :: Post.sdig z]) := Lib.hid (by rw [HPJ.out, HTP.out, if_neg (by simpa using hnz)])
            have hsl := let_at j hlt
            rw [show ((j : Int) + 1) = IntKind.i64.wrap ((j : Int) + 1) from by rw [IntKind.wrap_i64]; omega] at hsl
            have HN : Hid ((⟨([Post.letters.getD j 0] : List UInt8).toArray⟩ : ByteArray) ++ ⟨(Post.sdig z).toArray⟩ = ⟨(Post.letters.getD j 0 :: Post.sdig z).toArray⟩) := Lib.hid (by rw [app_string]; rfl)
            have hz5 : (⟨([Post.letters.getD j 0] : List UInt8).toArray⟩ : ByteArray).size ≤ 1 := by rw [size_string]; simp
            generalize (⟨([Post.letters.getD j 0] : List UInt8).toArray⟩ : ByteArray) = LT at *
            generalize hSZ : (⟨(Post.sdig z).toArray⟩ : ByteArray) = SZ at *
            clear hSZ
            have hcat : ¬ 9223372036854775807 < LT.size + SZ.size := by omega
            go_upto_region 15 with fail
            clear hix
            refine wp_region_G (C := fun _ => True) (s0 := 6) (by kernel_rfl) ?_
            have hbd := (Below.refl wr.heap.size wr).drew
            replace HO := Lib.hid (recs_below HO.out hbd)
            replace HB2 := Lib.hid (HB2.out.trans (hbd.mono (by have := HB2.out.size; have := HBZ.out; omega)))
            replace HAM := Lib.hid (row_drewT HAM.out)
            clear hbd
            generalize wr.drew = wd at *
            have hHeld : True := trivial
            refine wpAnyG_takeU (i := 0) (oi := { dst := some 54, op := Op.move (Operand.tmp 6), type := 62, pos := "report.go:171", after := #[], guard := none }) (v := ?_) rfl (by kernel_rfl) (by kernel_rfl) (by kernel_rfl) (by decide) (fun _ _ _ h => h) (Or.inl ⟨by rfl, ?_⟩) (.inl (by assumption)) ?_
            rotate_left
            · intro w hSw; go_simp; try with_reducible rfl
            try simp only [Act.put, List.setIfInBounds_toArray, List.set_cons_zero, List.set_cons_succ]
            refine wpAnyG_takeU (i := 1) (oi := { dst := some 55, op := Op.move (Operand.tmp 8), type := 3, pos := "report.go:171", after := #[], guard := none }) (v := ?_) rfl (by kernel_rfl) (by kernel_rfl) (by kernel_rfl) (by decide) (fun _ _ _ h => h) (Or.inl ⟨by rfl, ?_⟩) (.inl (by assumption)) ?_
            rotate_left
            · intro w hSw; go_simp; try with_reducible rfl
            try simp only [Act.put, List.setIfInBounds_toArray, List.set_cons_zero, List.set_cons_succ]
            refine wpAnyG_takeU (i := 2) (oi := { dst := some 56, op := Op.move (Operand.tmp 8), type := 3, pos := "report.go:171", after := #[], guard := none }) (v := ?_) rfl (by kernel_rfl) (by kernel_rfl) (by kernel_rfl) (by decide) (fun _ _ _ h => h) (Or.inl ⟨by rfl, ?_⟩) (.inl (by assumption)) ?_
            rotate_left
            · intro w hSw; go_simp; try with_reducible rfl
            try simp only [Act.put, List.setIfInBounds_toArray, List.set_cons_zero, List.set_cons_succ]
            refine wpAnyG_takeU (i := 3) (oi := { dst := some 57, op := Op.binOp BinOp.add 3 (Operand.tmp 56) (Operand.const (Value.int IntKind.i64 1)) 3, type := 3, pos := "report.go:171", after := #[{ on := 2, ground := Ground.data }], guard := none }) (v := ?_) rfl (by kernel_rfl) (by kernel_rfl) (by kernel_rfl) (by decide) (fun _ _ _ h => h) (Or.inl ⟨by rfl, ?_⟩) (.inl (by assumption)) ?_
            rotate_left
            · intro w hSw; go_simp; try with_reducible rfl
            try simp only [Act.put, List.setIfInBounds_toArray, List.set_cons_zero, List.set_cons_succ]
            refine wpAnyG_takeU (i := 4) (oi := { dst := some 58, op := Op.slice 9 (Operand.const (Value.string { data := #[67, 76, 82, 84, 80, 86] })) (some (Operand.tmp 55)) (some (Operand.tmp 57)) none, type := 9, pos := "report.go:171", after := #[{ on := 1, ground := Ground.data }, { on := 3, ground := Ground.data }], guard := none }) (v := ?_) rfl (by kernel_rfl) (by kernel_rfl) (by kernel_rfl) (by decide) (fun _ _ _ h => h) (Or.inl ⟨by rfl, ?_⟩) (.inl (by assumption)) ?_
            rotate_left
            · intro w hSw; go_simp; try with_reducible rfl
            try simp only [Act.put, List.setIfInBounds_toArray, List.set_cons_zero, List.set_cons_succ]
            refine wpAnyG_takeU (i := 5) (oi := { dst := some 59, op := Op.move (Operand.tmp 9), type := 2, pos := "report.go:171", after := #[], guard := none }) (v := ?_) rfl (by kernel_rfl) (by kernel_rfl) (by kernel_rfl) (by decide) (fun _ _ _ h => h) (Or.inl ⟨by rfl, ?_⟩) (.inl (by assumption)) ?_
            rotate_left
            · intro w hSw; go_simp; try with_reducible rfl
            try simp only [Act.put, List.setIfInBounds_toArray, List.set_cons_zero, List.set_cons_succ]
            refine wpAnyG_one (i := 6) (o := { dst := some 60, op := Op.call { callee := Callee.value (Operand.func 74), args := #[Operand.tmp 59, Operand.const (Value.int IntKind.i64 10)], argTypes := #[2, 3] }, type := 9, pos := "report.go:171", after := #[{ on := 5, ground := Ground.data }], guard := none }) (by kernel_rfl) rfl (fun K hK => ?_)
            go_simp
            go_at_call 74
            refine (HFZ.out _ (HTW.out _ HB2.out)).mono ?_
            rintro e w6 ⟨rfl, hb6⟩
            replace HB2 := Lib.hid (HB2.out.trans (hb6.mono (by have := HB2.out.size; have := HBZ.out; omega)))
            replace HAM := Lib.hid ((hb6.block _ (block_lt HAM.out)).trans HAM.out)
            replace HO := Lib.hid (recs_below HO.out hb6)
            clear hb6
            refine hK.out _ _ (.inr rfl) ?_
            clear hK K
            try simp only [Act.put, List.setIfInBounds_toArray, List.set_cons_zero, List.set_cons_succ]
            refine wpAnyG_takeU (i := 7) (oi := { dst := some 61, op := Op.binOp BinOp.add 9 (Operand.tmp 58) (Operand.tmp 60) 9, type := 9, pos := "report.go:171", after := #[{ on := 4, ground := Ground.data }, { on := 6, ground := Ground.data }], guard := none }) (v := ?_) rfl (by kernel_rfl) (by kernel_rfl) (by kernel_rfl) (by decide) (fun _ _ _ h => h) (Or.inl ⟨by rfl, ?_⟩) (.inr rfl) ?_
            rotate_left
            · intro w hSw; go_simp; try with_reducible rfl
            try simp only [Act.put, List.setIfInBounds_toArray, List.set_cons_zero, List.set_cons_succ]
            refine wpAnyG_one (i := 8) (o := { dst := some 62, op := Op.buildSlice 62 1 #[(0, Operand.tmp 61)], type := 62, pos := "report.go:171", after := #[{ on := 7, ground := Ground.data }], guard := none }) (by kernel_rfl) rfl (fun K hK => ?_)
            go_simp
            have hbn := (Below.refl w6.heap.size w6).alloc (Nat.le_refl _) (.cells #[.string (LT ++ SZ)] 9)
            have HO7 := Lib.hid (recs_below HO.out hbn)
            have HR7 := Lib.hid (new_rowW w6 (.cells #[.string (LT ++ SZ)] 9) _ rfl)
            replace HB2 := Lib.hid (HB2.out.trans (hbn.mono (by have := HB2.out.size; have := HBZ.out; omega)))
            replace HAM := Lib.hid ((hbn.block _ (block_lt HAM.out)).trans HAM.out)
            clear hbn
            generalize w6.alloc (.cells #[.string (LT ++ SZ)] 9) = w7 at *
            generalize w6.heap.size = g7 at *
            refine hK.out _ _ (.inr rfl) ?_
            clear hK K
            try simp only [Act.put, List.setIfInBounds_toArray, List.set_cons_zero, List.set_cons_succ]
            refine wpAnyG_one (i := 9) (o := { dst := some 63, op := Op.call { callee := Callee.builtin Builtin.append, args := #[Operand.tmp 54, Operand.tmp 62], argTypes := #[62, 62] }, type := 62, pos := "report.go:171", after := #[{ on := 0, ground := Ground.data }, { on := 8, ground := Ground.data }, { on := 6, ground := Ground.chain }], guard := none }) (by kernel_rfl) rfl (fun K hK => ?_)
            refine step_append_recs elemSt rfl _ _ rfl B2 _ nl _ rfl HO7.out _ [Post.letters.getD j 0 :: Post.sdig z] rfl (row_one (enc := StrC) (x := Post.letters.getD j 0 :: Post.sdig z) HR7.out (by rw [HN.out]; rfl) StrC_length (by decide)) (by have := HNL.out; simp; omega) (by have := HB2.out.size; have := HBZ.out; omega) ?_
            intro v8 w8 hown8 hg8 _
            rw [show nl + [(Post.letters.getD j 0 :: Post.sdig z : List UInt8)].length = nl + 1 from rfl] at hown8
            obtain ⟨q8, z8, rfl⟩ := rec_formT hown8
            have HO8 := Lib.hid hown8
            have HB8 := Lib.hid (HB2.out.grown hg8 (by have := HB2.out.size; have := HBZ.out; omega) (fun b hb => (recs_base HO7.out hb).1))
            have n8 := own_neT HO7.out HAM.out (by decide)
            have HAM8 := Lib.hid ((hg8.block _ (block_lt HAM.out) (fun e => n8 _ e.symm rfl)).trans HAM.out)
            clear hown8 hg8 n8
            refine hK.out _ _ (.inr rfl) ?_
            clear hK K
            try simp only [Act.put, List.setIfInBounds_toArray, List.set_cons_zero, List.set_cons_succ]
            refine wpAnyG_takeU (i := 10) (oi := { dst := some 6, op := Op.assign (Operand.tmp 63), type := 62, pos := "report.go:171", after := #[{ on := 9, ground := Ground.data }, { on := 9, ground := Ground.chain }, { on := 0, ground := Ground.phase }, { on := 1, ground := Ground.phase }, { on := 2, ground := Ground.phase }, { on := 3, ground := Ground.phase }, { on := 4, ground := Ground.phase }, { on := 5, ground := Ground.phase }, { on := 6, ground := Ground.phase }, { on := 7, ground := Ground.phase }, { on := 8, ground := Ground.phase }, { on := 9, ground := Ground.phase }], guard := none }) (v := ?_) rfl (by kernel_rfl) (by kernel_rfl) (by kernel_rfl) (by decide) (fun _ _ _ h => h) (Or.inl ⟨by rfl, ?_⟩) (.inr rfl) ?_
            rotate_left
            · intro w hSw; go_simp; try with_reducible rfl
            try simp only [Act.put, List.setIfInBounds_toArray, List.set_cons_zero, List.set_cons_succ]
            refine wpAnyG_done (by kernel_rfl) ?_ _
            go_wp2_with fail
            go_roundw
            case rel => exact ⟨j + 1, nl + 1, _, _, by omega, by go_num, rfl, by have h1 := HO8.out.1; rw [encL_length StrC_length] at h1; have := HHL.out; have := HPL.out j; simp only [List.length_append, List.length_cons, List.length_nil] at h1; omega, by rw [HTQ.out, ← List.append_assoc]; exact HO8.out, HB8.out, HAM8.out⟩
            case measure => simp [intOf]; omega
        · obtain rfl : j = 6 := by omega
          have HJ := Lib.hid (join_any _ [32] _ wr (LS.of_own HO.out StrC_length (by decide)) (by have := HLEN.out 6; rw [HTJ.out] at this; omega) (by have h1 := HO.out.1; rw [encL_length StrC_length] at h1; have := HNL.out; omega))
          rw [← HTJ.out 6] at HJ
          generalize Post.totJ m am 6 = LJ at *
          go_wp2_with fail
          refine HJ.out.mono ?_
          rintro e wj ⟨rfl, hbj⟩
          have HBJ := Lib.hid (HB2.out.trans (hbj.mono (by have := HB2.out.size; have := HBZ.out; omega)))
          have HOJ := Lib.hid (recs_keep HOUT.out (fun bq hq hlt2 => HBJ.out.block bq (by rw [← hB2]; exact hlt2)))
          have HBJ2 := Lib.hid (HB.out.trans (HBJ.out.mono (by have := HB.out.size; omega)))
          clear hbj
          go_wp2_with (at_builtin; refine wpList_append_recs elemSt rfl _ _ rfl w.heap.size _ _ _ rfl (recs_below HOJ.out ((Below.refl _ _).alloc (Nat.le_refl _) _)) _ [LJ] rfl (row_one (enc := StrC) (x := LJ) (new_rowW _ _ _ rfl) rfl StrC_length (by decide)) (by simp <;> omega) (by have := HBJ2.out.size; simp <;> omega) ?_; intro v2 w9 hown2 hg2 hn2 hat2)
          have HZ : Hid (w9.ownsRow w.heap.size 9 1 v2 (k + 1) (encL StrC (Post.linesR l m [x0, x1, x2, x3, x4, x5]))) := Lib.hid (by
            rw [HLR.out]
            exact hown2)
          have HBF := Lib.hid ((HBJ2.out.alloc HBJ2.out.size _).grown hg2 (by have := HBJ2.out.size; simp <;> omega) (fun b hb => (recs_base HOJ.out hb).1))
          clear hown2 hg2 hn2 hat2
          go_wp2
          go_ret
          exact ⟨_, rfl, HZ.out, HBF.out⟩
end Go.Proofs.YtellhmbebimenaaDoor
