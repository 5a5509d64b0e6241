/- Contract: a report's lines, by the reference (couponref17.Lines). -/
import Derived.Test.YtellhmbebimenaaDoorRt48

set_option linter.unusedVariables false
set_option linter.unusedSimpArgs false
namespace Go.Proofs.YtellhmbebimenaaDoor
open Go.RowKit

theorem rText_of (x : Pst) (hw : x.wf) (hm : x.may = true) (w : World) :
    Calls Tryd.prog 27 #[.agg #[.int .i64 x.d, .int .u64 x.t, .int .i64 x.s, .int .i64 x.k, .int .i64 x.a0, .int .i64 x.a1, .int .i64 x.a2, .int .i64 x.a3, .int .i64 x.a4, .int .i64 x.a5]] w fun e w' => e = .returned (.string ⟨(Post.lineP x).toArray⟩) ∧ Below w.heap.size w w' := by
  have h0 := in_u64 hw.2.1
  have h := rText14_any x.d x.t x.s x.k x.a0 x.a1 x.a2 x.a3 x.a4 x.a5 h0.1 h0.2 w
  unfold Post.textB at h
  rw [if_pos (show Post.may x.d x.t x.s x.k [x.a0, x.a1, x.a2, x.a3, x.a4, x.a5] = true from hm)] at h
  exact h
set_option maxRecDepth 8000 in
set_option maxHeartbeats 8000000 in
theorem rLines17_any (a b : Int) (l : List Pst) (p : Option Addr) (n cap : Nat) (m x0 x1 x2 x3 x4 x5 : Int) (hmay : ∀ x ∈ l, x.may = true) (hn60 : n ≤ 60) (hm : 0 ≤ m ∧ m ≤ 60) (hx : ∀ x ∈ [x0, x1, x2, x3, x4, x5], -9223372036854775808 < x ∧ x ≤ 9223372036854775807) (w : World) (hs : PS w (.slice p n cap) l) :
    Calls Tryd.prog 37 #[.agg #[.int .i64 a, .int .i64 b, (.slice p n cap), .int .i64 m, .int .i64 x0, .int .i64 x1, .int .i64 x2, .int .i64 x3, .int .i64 x4, .int .i64 x5]] w fun e w' => ∃ v, e = .returned v ∧ w'.ownsRow w.heap.size 9 1 v (n + 1) (encL StrC (Post.linesR l m [x0, x1, x2, x3, x4, x5])) ∧ Below w.heap.size w w' := by
  have HPS := Lib.hid hs; have HN := Lib.hid (ps_len hs).1
  have hn1 := (ps_len hs).2.1
  have hn2 := (ps_len hs).2.2
  have HTX : Hid (∀ x ∈ l, ∀ W : World, Calls Tryd.prog 27 #[.agg #[.int .i64 x.d, .int .u64 x.t, .int .i64 x.s, .int .i64 x.k, .int .i64 x.a0, .int .i64 x.a1, .int .i64 x.a2, .int .i64 x.a3, .int .i64 x.a4, .int .i64 x.a5]] W fun e w' => e = .returned (.string ⟨(Post.lineP x).toArray⟩) ∧ Below W.heap.size W w') := Lib.hid (fun x hx W => rText_of x (ps_wf hs x hx) (hmay x hx) W)
  have HDM := Lib.hid (fun W => rdigits_any m (by omega) (by omega) W)
  obtain ⟨am, hamd⟩ : ∃ am, am = [x0, x1, x2, x3, x4, x5] := ⟨_, rfl⟩
  have hal : am.length = 6 := by rw [hamd]; rfl
  rw [← hamd] at hx
  have HA : Hid (∀ j, -9223372036854775808 < am.getD j 0 ∧ am.getD j 0 ≤ 9223372036854775807) := Lib.hid (fun j => by
    rw [List.getD_eq_getElem?_getD]
    rcases Nat.lt_or_ge j am.length with h | h
    · rw [List.getElem?_eq_getElem h]; exact hx _ (List.getElem_mem h)
    · rw [List.getElem?_eq_none h]; simp)
  have HAMC : Hid (#[.int .i64 x0, .int .i64 x1, .int .i64 x2, .int .i64 x3, .int .i64 x4, .int .i64 x5] = (Post.amRow am : Array Value)) := Lib.hid (by rw [hamd]; rfl)
  have HLEN := Lib.hid (Post.totJ_len m am (by omega) (fun x h => by have := hx x h; omega))
  have HSU := Lib.hid (Post.totJ_succ m am)
  have HJ0 : Hid ((⟨#[116, 111, 116, 97, 108, 32]⟩ : ByteArray) ++ ⟨(Dec.digits m.toNat).toArray⟩ = ⟨(Post.totJ m am 0).toArray⟩) := Lib.hid (by
    rw [Post.totJ_zero, show (⟨#[116, 111, 116, 97, 108, 32]⟩ : ByteArray) = ⟨(Post.totW ++ [32] : List UInt8).toArray⟩ from rfl, app_string]
    unfold Post.sdig
    rw [if_neg (by omega)])
  have HLR : Hid (Post.linesR l m [x0, x1, x2, x3, x4, x5] = l.map Post.lineP ++ [Post.totJ m am 6]) := Lib.hid (by rw [hamd]; rfl)
  have hdm : (⟨(Dec.digits m.toNat).toArray⟩ : ByteArray).size ≤ 20 := digits_size _ (by omega)
  have zm : IntKind.u64.wrap m = m := by rw [IntKind.wrap_u64]; omega
  have HMK := Lib.hid mark_at
  clear hx hm hs hamd hmay
  generalize Post.totJ m am = TJ at *
  have HB0 := Lib.hid ((Below.refl w.heap.size w).alloc (Nat.le_refl _) (.cells #[.int .i64 a, .int .i64 b, (.slice p n cap), .int .i64 m, .int .i64 x0, .int .i64 x1, .int .i64 x2, .int .i64 x3, .int .i64 x4, .int .i64 x5] 61))
  have HRW := Lib.hid (new_rowW w (.cells #[.int .i64 a, .int .i64 b, (.slice p n cap), .int .i64 m, .int .i64 x0, .int .i64 x1, .int .i64 x2, .int .i64 x3, .int .i64 x4, .int .i64 x5] 61) _ rfl)
  go_enter Tryd.func37, Tryd.ntmps37
  go_upto_region 1 with fail
  generalize w.alloc (.cells #[.int .i64 a, .int .i64 b, (.slice p n cap), .int .i64 m, .int .i64 x0, .int .i64 x1, .int .i64 x2, .int .i64 x3, .int .i64 x4, .int .i64 x5] 61) = w0 at *
  go_wp2_with fail
  go_loopw [3, 4] (fun v i wr => ∃ k : Nat, k ≤ n ∧ i = .int .i64 k ∧ wr.ownsRow w.heap.size 9 1 v k (encL StrC ((l.take k).map Post.lineP)) ∧ Below w.heap.size w wr ∧ wr.heap[w.heap.size]? = some (.cells #[.int .i64 a, .int .i64 b, (.slice p n cap), .int .i64 m, .int .i64 x0, .int .i64 x1, .int .i64 x2, .int .i64 x3, .int .i64 x4, .int .i64 x5] 61 (0, 0))) (fun _ i _ => n - (intOf i).toNat)
  case atStart => exact ⟨0, Nat.zero_le _, rfl, World.ownsRow_nil _ _ _ _, HB0.out, HRW.out⟩
  case round =>
    obtain ⟨k, hk, rfl, hown, hbw, hra⟩ := hrel
    have HO := Lib.hid hown; have HBW := Lib.hid hbw; have HRA := Lib.hid hra
    clear hown hra HB0 HRW
    have hc := fun j => cell_of_row wr w.heap.size j _ _ _ HRA.out
    by_cases hlt : k < n
    · obtain ⟨x, hx⟩ : ∃ x, l[k]? = some x := ⟨_, List.getElem?_eq_getElem (by have := HN.out; omega)⟩
      obtain ⟨bb, o, rfl, hbl, hat⟩ := ps_at (HPS.out.below hbw) hx
      have HXT := Lib.hid (HTX.out x (List.mem_of_getElem? hx))
      have HT2 : Hid ((l.take (k + 1)).map Post.lineP = (l.take k).map Post.lineP ++ [Post.lineP x]) := Lib.hid (by
        rw [List.take_add_one, hx, List.map_append]; rfl)
      unfold PAt at hat
      obtain ⟨c0, c1, c2, c3, c4, c5, c6, c7, c8, c9⟩ := hat
      clear hx hbw
      go_wp2_with fail
      clear c0 c1 c2 c3 c4 c5 c6 c7 c8 c9 hc
      refine (HXT.out _).mono ?_
      rintro e w3 ⟨rfl, hb3⟩
      have HO3 := Lib.hid (recs_below HO.out hb3)
      have HB3 := Lib.hid (HBW.out.trans (hb3.mono HBW.out.size))
      have HRA3 := Lib.hid ((hb3.block _ (block_lt HRA.out)).trans HRA.out)
      clear hb3 HXT
      generalize hLP : Post.lineP x = LP at *
      go_wp2_with (at_builtin; refine wpList_append_recs elemSt rfl _ _ rfl w.heap.size _ _ _ rfl (recs_below HO3.out ((Below.refl _ _).alloc (Nat.le_refl _) _)) _ [LP] rfl (row_one (enc := StrC) (x := LP) (new_rowW _ _ _ rfl) rfl StrC_length (by decide)) (by simp <;> omega) (by have := HB3.out.size; simp <;> omega) ?_; intro v2 w4 hown2 hg2 hn2 hat2)
      have HO2 : Hid (w4.ownsRow w.heap.size 9 1 v2 (k + 1) (encL StrC ((l.take (k + 1)).map Post.lineP))) := Lib.hid (by
        rw [HT2.out]
        exact hown2)
      have HB2 := Lib.hid ((HB3.out.alloc HB3.out.size _).grown hg2 (by have := HB3.out.size; simp <;> omega) (fun b hb => (recs_base HO3.out hb).1))
      have n1 := own_neT HO3.out HRA3.out (by decide)
      have HRA2 := Lib.hid ((hg2.block _ (block_lt (row_allocW HRA3.out _)) (fun e => n1 _ e.symm rfl)).trans (row_allocW HRA3.out _))
      clear hown2 hg2 hn2 hat2 n1 hLP
      go_wp2
      go_roundw
      case rel => exact ⟨k + 1, by omega, by go_num, HO2.out, HB2.out, HRA2.out⟩
      case measure => simp [intOf]; omega
    · obtain rfl : k = n := by omega
      have hown := HO.out
      rw [List.take_of_length_le (by have := HN.out; omega)] at hown
      obtain ⟨qo, co, rfl⟩ := rec_formT hown
      have HOUT := Lib.hid hown
      clear hown hbw HO
      go_upto_region 7 with fail
      clear hc
      have hbn := (Below.refl wr.heap.size wr).alloc (Nat.le_refl _) (.cells #[.int .i64 m, .int .i64 x0, .int .i64 x1, .int .i64 x2, .int .i64 x3, .int .i64 x4, .int .i64 x5] 59)
      have HRT := Lib.hid (new_rowW wr (.cells #[.int .i64 m, .int .i64 x0, .int .i64 x1, .int .i64 x2, .int .i64 x3, .int .i64 x4, .int .i64 x5] 59) _ rfl)
      replace HOUT := Lib.hid (recs_below HOUT.out hbn)
      have HB := Lib.hid (HBW.out.trans (hbn.mono HBW.out.size))
      clear hbn HBW HRA
      generalize wr.alloc (.cells #[.int .i64 m, .int .i64 x0, .int .i64 x1, .int .i64 x2, .int .i64 x3, .int .i64 x4, .int .i64 x5] 59) = w2 at *
      generalize wr.heap.size = gt at *
      have hct := fun j => cell_of_row w2 gt j _ _ _ HRT.out
      go_wp2_with fail
      refine (HDM.out _).mono ?_
      rintro e w3 ⟨rfl, hb⟩
      replace HOUT := Lib.hid (recs_below HOUT.out hb)
      replace HB := Lib.hid (HB.out.trans (hb.mono HB.out.size))
      replace HRT := Lib.hid ((hb.block _ (block_lt HRT.out)).trans HRT.out)
      clear hb hct
      generalize (⟨(Dec.digits m.toNat).toArray⟩ : ByteArray) = DM at *
      go_upto_region 8 with fail
      rw [HJ0.out]
      have hct := fun j => cell_of_row w3 gt j _ _ _ HRT.out
      go_upto_region 9 with fail
      clear hct
      have hbn := (Below.refl w3.heap.size w3).alloc (Nat.le_refl _) (.cells #[.int .i64 x0, .int .i64 x1, .int .i64 x2, .int .i64 x3, .int .i64 x4, .int .i64 x5] 2)
      have HAM := Lib.hid (new_rowW w3 (.cells #[.int .i64 x0, .int .i64 x1, .int .i64 x2, .int .i64 x3, .int .i64 x4, .int .i64 x5] 2) _ rfl)
      replace HOUT := Lib.hid (recs_below HOUT.out hbn)
      replace HB := Lib.hid (HB.out.trans (hbn.mono HB.out.size))
      rw [HAMC.out] at HAM HOUT HB ⊢
      clear hbn HRT
      generalize w3.alloc (.cells (Post.amRow am) 2) = w4 at *
      generalize w3.heap.size = gam at *
      go_upto_region 10 with fail
      have hbn := (Below.refl w4.heap.size w4).alloc (Nat.le_refl _) (.cells #[.string ⟨#[32, 67]⟩, .string ⟨#[32, 76]⟩, .string ⟨#[32, 82]⟩, .string ⟨#[32, 84]⟩, .string ⟨#[32, 80]⟩, .string ⟨#[32, 86]⟩] 9)
      have HMR := Lib.hid (new_rowW w4 (.cells #[.string ⟨#[32, 67]⟩, .string ⟨#[32, 76]⟩, .string ⟨#[32, 82]⟩, .string ⟨#[32, 84]⟩, .string ⟨#[32, 80]⟩, .string ⟨#[32, 86]⟩] 9) _ rfl)
      replace HOUT := Lib.hid (recs_below HOUT.out hbn)
      replace HB := Lib.hid (HB.out.trans (hbn.mono HB.out.size))
      replace HAM := Lib.hid ((hbn.block _ (block_lt HAM.out)).trans HAM.out)
      clear hbn
      generalize w4.alloc (.cells #[.string ⟨#[32, 67]⟩, .string ⟨#[32, 76]⟩, .string ⟨#[32, 82]⟩, .string ⟨#[32, 84]⟩, .string ⟨#[32, 80]⟩, .string ⟨#[32, 86]⟩] 9) = w5 at *
      generalize w4.heap.size = gm at *
      go_wp2_with fail
      go_loopw [6, 9] (fun sv i wr => ∃ (j : Nat) (S : ByteArray), j ≤ 6 ∧ i = .int .i64 j ∧ sv = .string S ∧ S = ⟨(TJ j).toArray⟩ ∧ Below w5.heap.size w5 wr) (fun _ i _ => 6 - (intOf i).toNat)
      case atStart => exact ⟨0, _, by omega, rfl, rfl, rfl, Below.refl _ _⟩
      case round =>
        obtain ⟨j, S, hj, rfl, rfl, hS, hb⟩ := hrel
        have HS := Lib.hid hS
        have HBL := Lib.hid hb
        have hSz : S.size ≤ 224 := by rw [hS, size_string]; have := HLEN.out j; omega
        clear hS hb
        by_cases hlt : j < 6
        · have HAr := Lib.hid ((HBL.out.block _ (block_lt HAM.out)).trans HAM.out)
          have HMr := Lib.hid ((HBL.out.block _ (block_lt HMR.out)).trans HMR.out)
          have hca : wr.cell? ⟨gam, j, none⟩ = some (.int .i64 (am.getD j 0)) := (cell_of_row wr gam j _ _ _ HAr.out).trans (Post.amRow_at (by omega))
          have HSJ := Lib.hid (HSU.out j)
          have HZB := Lib.hid (HA.out j)
          generalize am.getD j 0 = z at *
          have hcm : wr.cell? ⟨gm, j, none⟩ = some (.string ⟨([32, Post.letters.getD j 0] : List UInt8).toArray⟩) := (cell_of_row wr gm j _ _ _ HMr.out).trans (HMK.out j hlt)
          have hz5 : (⟨([32, Post.letters.getD j 0] : List UInt8).toArray⟩ : ByteArray).size ≤ 2 := by rw [size_string]; simp
          have HLm := Lib.hid (block_lt HMr.out)
          have HLa := Lib.hid (block_lt HAr.out)
          by_cases hz0 : z = 0
          · have HN : Hid (TJ (j + 1) = TJ j) := Lib.hid (by rw [HSJ.out, if_pos hz0]; simp)
            subst hz0
            go_wp2_with fail
            go_roundw
            case rel => exact ⟨j + 1, _, by omega, by go_num, rfl, by rw [HN.out]; exact HS.out, HBL.out⟩
            case measure => simp [intOf]; omega
          · by_cases hpos : 0 < z
            · have HDZ := Lib.hid (fun W => rdigits_any z (by omega) (by have := HZB.out; omega) W)
              have hzz : (⟨(Dec.digits z.toNat).toArray⟩ : ByteArray).size ≤ 20 := digits_size _ (by have := HZB.out; omega)
              have HN : Hid ((S ++ ⟨([32, Post.letters.getD j 0] : List UInt8).toArray⟩) ++ ⟨(Dec.digits z.toNat).toArray⟩ = ⟨(TJ (j + 1)).toArray⟩) := Lib.hid (by
                rw [HSJ.out, if_neg hz0, HS.out, app_string, app_string, List.append_assoc]
                unfold Post.sdig
                rw [if_neg (by omega)])
              have zz : IntKind.u64.wrap z = z := by rw [IntKind.wrap_u64]; have := HZB.out; omega
              have hneg : ¬ z < 0 := by omega
              generalize (⟨([32, Post.letters.getD j 0] : List UInt8).toArray⟩ : ByteArray) = MK at *
              generalize (⟨(Dec.digits z.toNat).toArray⟩ : ByteArray) = SZ at *
              clear hz0
              go_upto_region 14 with fail
              have hcu := fun (u : Later wr) => (u.cell gam j HLa.out).trans hca
              have hmu := fun (u : Later wr) => (u.cell gm j HLm.out).trans hcm
              refine wp_region_later (by kernel_rfl) (by kernel_rfl) ?_
              repeat (go_big_quiet_step (first | (go_at_call 42; exact later_call (HDZ.out _))))
              refine wpQuiet_nil ?_
              rintro w9 ⟨u, rfl⟩
              have HBU := Lib.hid (HBL.out.trans (u.prop.mono HBL.out.size))
              have hca9 := hcu u
              clear hcu hmu hca hcm
              generalize u.val = w9 at *
              go_wp2_with fail
              go_roundw
              case rel => exact ⟨j + 1, _, by omega, by go_num, rfl, HN.out, HBU.out⟩
              case measure => simp [intOf]; omega
            · have HDZ := Lib.hid (fun W => rdigits_any (-z) (by omega) (by have := HZB.out; omega) W)
              have hzz : (⟨(Dec.digits (-z).toNat).toArray⟩ : ByteArray).size ≤ 20 := digits_size _ (by have := HZB.out; omega)
              have HN : Hid (((S ++ ⟨([32, Post.letters.getD j 0] : List UInt8).toArray⟩) ++ ⟨#[45]⟩) ++ ⟨(Dec.digits (-z).toNat).toArray⟩ = ⟨(TJ (j + 1)).toArray⟩) := Lib.hid (by
                rw [HSJ.out, if_neg hz0, HS.out, show (⟨#[45]⟩ : ByteArray) = ⟨([45] : List UInt8).toArray⟩ from rfl, app_string, app_string, app_string]
                unfold Post.sdig
                rw [if_pos (by omega), show z.natAbs = (-z).toNat by omega]
                simp)
              have zn : IntKind.i64.wrap (-z) = -z := by rw [IntKind.wrap_i64]; have := HZB.out; omega
              have zz : IntKind.u64.wrap (-z) = -z := by rw [IntKind.wrap_u64]; have := HZB.out; omega
              have hneg : z < 0 := by omega
              generalize (⟨([32, Post.letters.getD j 0] : List UInt8).toArray⟩ : ByteArray) = MK at *
              generalize (⟨(Dec.digits (-z).toNat).toArray⟩ : ByteArray) = SZ at *
              clear hz0
              go_upto_region 16 with fail
              have hcu := fun (u : Later wr) => (u.cell gam j HLa.out).trans hca
              have hmu := fun (u : Later wr) => (u.cell gm j HLm.out).trans hcm
              refine wp_region_later (by kernel_rfl) (by kernel_rfl) ?_
              repeat (go_big_quiet_step (first | (go_at_call 42; exact later_call (HDZ.out _))))
              refine wpQuiet_nil ?_
              rintro w9 ⟨u, rfl⟩
              have HBU := Lib.hid (HBL.out.trans (u.prop.mono HBL.out.size))
              clear hcu hmu hca hcm
              generalize u.val = w9 at *
              go_wp2_with fail
              go_roundw
              case rel => exact ⟨j + 1, _, by omega, by go_num, rfl, HN.out, HBU.out⟩
              case measure => simp [intOf]; omega
        · obtain rfl : j = 6 := by omega
          have HOJ := Lib.hid (recs_below HOUT.out HBL.out)
          have HBJ2 := Lib.hid (HB.out.trans (HBL.out.mono HB.out.size))
          obtain rfl : S = ⟨(TJ 6).toArray⟩ := HS.out
          generalize TJ 6 = LJ at *
          go_wp2_with (at_builtin; refine wpList_append_recs elemSt rfl _ _ rfl w.heap.size _ _ _ rfl (recs_below HOJ.out ((Below.refl _ _).alloc (Nat.le_refl _) _)) _ [LJ] rfl (row_one (enc := StrC) (x := LJ) (new_rowW _ _ _ rfl) rfl StrC_length (by decide)) (by simp <;> omega) (by have := HBJ2.out.size; simp <;> omega) ?_; intro v2 w9 hown2 hg2 hn2 hat2)
          have HZ : Hid (w9.ownsRow w.heap.size 9 1 v2 (k + 1) (encL StrC (Post.linesR l m [x0, x1, x2, x3, x4, x5]))) := Lib.hid (by
            rw [HLR.out]
            exact hown2)
          have HBF := Lib.hid ((HBJ2.out.alloc HBJ2.out.size _).grown hg2 (by have := HBJ2.out.size; simp <;> omega) (fun b hb => (recs_base HOJ.out hb).1))
          clear hown2 hg2 hn2 hat2
          go_wp2
          go_ret
          exact ⟨_, rfl, HZ.out, HBF.out⟩
end Go.Proofs.YtellhmbebimenaaDoor
