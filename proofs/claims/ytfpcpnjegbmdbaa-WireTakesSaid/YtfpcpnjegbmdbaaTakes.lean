/- WireTakes returns true for all bytes and every list of puts, and leaves the memory that was there as it was. -/
import Derived.Test.YtfpcpnjegbmdbaaTakeA
import Derived.Deep.RegionHeld3
set_option linter.unusedVariables false
set_option linter.unusedSimpArgs false
namespace Go.Proofs.Ytfpcpnjegbmdbaa.wireTakes
open Go.ChangeShapes Go.WideShapes Go.ChangeAt Go.RowKit

set_option maxRecDepth 4000 in
set_option maxHeartbeats 4000000 in
theorem walk (v : Value) (b : List UInt8) (l : List PutR) (p : Option Addr) (n cap : Nat) (hn : n = l.length) (w : World) (hv : BS w v b) (hs : PutS w (.slice p n cap) l) :
    Calls Try.prog 8 #[v, .slice p n cap] w fun e w' => e = .returned (.bool true) ∧ Below w.heap.size w w' := by
  have HFEW := Lib.hid (few_any l p n cap hn 60 w hs)
  obtain ⟨p', cap', e, h2, h3, h4, h5⟩ := hs
  injection e with e1 e2 e3
  subst e1; subst e3
  have H5 := Lib.hid h5; clear h5
  have H4 := Lib.hid h4; clear h4
  rw [← hn] at h2
  have HN := Lib.hid hn; clear hn e2
  unfold maxLen at h3
  have HV := Lib.hid hv
  have HB : Hid (∀ W, Below w.heap.size w W → BS W v b) := Lib.hid (fun W h => hv.below h)
  obtain ⟨pb, cb, rfl, hb1, hb2, -⟩ := hv
  unfold maxLen at hb2
  generalize hm : b.length = m at *
  have HM := Lib.hid hm; clear hm
  by_cases h5 : 5000 < m
  · go_enter Try.func8, Try.ntmps8
    go_wp2_with fail
    refine (known01_any _).mono ?_
    rintro e w1 ⟨rfl, hb1⟩
    go_wp2
    go_ret
    exact ⟨rfl, hb1⟩
  · cases hf : (fewB l && decide ((n : Int) ≤ 60)) with
    | false =>
      rw [hf] at HFEW
      go_enter Try.func8, Try.ntmps8
      go_wp2_with fail
      refine HFEW.out.mono ?_
      rintro e w1 ⟨rfl, rfl⟩
      go_wp2_with fail
      refine (known01_any _).mono ?_
      rintro e w1 ⟨rfl, hb1⟩
      go_wp2
      go_ret
      exact ⟨rfl, hb1⟩
    | true =>
      rw [hf] at HFEW
      rw [Bool.and_eq_true, decide_eq_true_eq] at hf
      obtain ⟨hfew, h60⟩ := hf
      clear hfew
      have HRD := Lib.hid (read_any _ b (by have := HM.out; omega) w HV.out)
      go_enter Try.func8, Try.ntmps8
      go_wp2_with fail
      refine HFEW.out.mono ?_
      rintro e w1 ⟨rfl, rfl⟩
      clear HFEW
      go_wp2_with fail
      refine HRD.out.mono ?_
      rintro e w2 ⟨br, rfl, hisr, hbw0⟩
      have HIR0 := Lib.hid hisr
      have HBW0 := Lib.hid hbw0
      clear hisr hbw0
      go_wp2_with fail
      go_loopw [6, 7, 8] (fun u q i wr => ∃ (k : Nat) (st : Option (List UInt8)), k ≤ n ∧ i = .int .i64 k ∧ q = .bool st.isSome ∧ BS w u (pGet st) ∧ IsR wr w.heap.size br st ∧ Below w.heap.size w wr) (fun _ _ i _ => n - (intOf i).toNat)
      case atStart => exact ⟨0, some b, Nat.zero_le _, rfl, rfl, HV.out, HIR0.out, HBW0.out⟩
      case round =>
        obtain ⟨k, st, hk, rfl, rfl, hu, hisr, hbw⟩ := hrel
        have HBW := Lib.hid hbw
        have HIR := Lib.hid hisr
        have HU := Lib.hid hu
        obtain ⟨q0, c0, hue, hu1, hu2, -⟩ := hu
        subst hue
        clear hisr HIR0 HBW0 HRD HB
        unfold maxLen at hu2
        by_cases hlt : k < n
        · obtain ⟨x, hx⟩ : ∃ x, l[k]? = some x := ⟨_, List.getElem?_eq_getElem (by have := HN.out; omega)⟩
          obtain ⟨b, o, rfl, hbs, hc⟩ := H5.out (by intro h; subst h; simp at hx)
          have hat := (hc k x hx).of_cells (w' := wr) fun j => hbw.cell (p := ⟨b, j, none⟩) hbs
          have hmem := List.mem_of_getElem? hx
          have hwf := (H4.out x hmem).1
          obtain ⟨q3, c3, hv, hv1, hv2, -⟩ := (H4.out x hmem).2
          have HTK := Lib.hid (fun W h => take_any w.heap.size br st x hwf x.v ⟨_, _, _, hv⟩ W h)
          have HRT := Lib.hid (fun W hb => rTakeRef_any (.slice q0 (pGet st).length c0) (pGet st) (kindOf x.kind) (kindOf_bd _).1 (kindOf_bd _).2 x.size W hb)
          have HKD := Lib.hid (kind_any x.kind)
          obtain ⟨c0', c1', c2', c3'⟩ := hat
          clear hx hc hmem hwf hbw
          obtain ⟨kd, N, sz, v, xb⟩ := x
          simp only at hv hv1 hv2 c0' c1' c2' c3' HTK HRT HKD
          subst hv
          unfold maxLen at hv2
          generalize kindOf kd = kk at *
          generalize xb.length = mx at *
          have hcw : ∀ W, Below w.heap.size w W → W.cell? ⟨b, o + k * 4, none⟩ = some (.int .i64 kd) ∧ W.cell? ⟨b, o + k * 4 + 1, none⟩ = some (.int .u64 (N : Int)) ∧ W.cell? ⟨b, o + k * 4 + 2, none⟩ = some (.int .i64 sz) ∧ W.cell? ⟨b, o + k * 4 + 3, none⟩ = some (.slice q3 mx c3) := fun W h => by
            have e := fun j => (h.cell (p := ⟨b, j, none⟩) hbs).trans (HBW.out.cell (p := ⟨b, j, none⟩) hbs).symm
            exact ⟨(e _).trans c0', (e _).trans c1', (e _).trans c2', (e _).trans c3'⟩
          have HCW := Lib.hid hcw
          clear hcw
          generalize hmu : (pGet st).length = mu at *
          have HMU := Lib.hid hmu
          clear hmu
          go_wp2_with fail
          refine (HTK.out _ HIR.out).mono ?_
          rintro e w3 ⟨xu, rfl, hbsu, hr⟩
          have HBW3 := Lib.hid (HBW.out.trans hr.2.1)
          have HIR3 := Lib.hid hr.1
          have HXU := Lib.hid hbsu
          obtain ⟨pu, cu, rfl, -, -, -⟩ := hbsu
          clear hr c0' c1' c2' c3' HIR HTK
          obtain ⟨d0, d1, d2, d3⟩ := HCW.out _ HBW3.out
          have HUW := Lib.hid (fun W (h : Below w.heap.size w W) => HU.out.below h)
          generalize hmx : (dX st kk sz).length = mxu at *
          have HMX := Lib.hid hmx
          clear hmx
          go_wp2_with fail
          go_region_held3 (fun w' => w'.cell? ⟨b, o + k * 4, none⟩ = some (.int .i64 kd) ∧ w'.cell? ⟨b, o + k * 4 + 1, none⟩ = some (.int .u64 (N : Int)) ∧ w'.cell? ⟨b, o + k * 4 + 2, none⟩ = some (.int .i64 sz) ∧ w'.cell? ⟨b, o + k * 4 + 3, none⟩ = some (.slice q3 mx c3)) (first | exact HCW.out _ (by assumption) | go_keep) (first
            | (go_at_call 14; refine (HKD.out _).mono ?_; rintro e w' ⟨rfl, rfl⟩)
            | (go_at_call 34; refine (HRT.out _ (HUW.out _ HBW3.out.drew)).mono ?_; rintro e w4 ⟨x1, y1, rfl, hxy, hb4⟩; obtain ⟨⟨px, cx, hx1, hxb, hxc, -⟩, ⟨py, cy, hy1, hyb, hyc, -⟩⟩ := hxy w HU.out; subst hx1; subst hy1; have hb4' : Below w.heap.size w w4 := HBW3.out.drew.trans (hb4.mono HBW3.out.size)))
          have HBW4 := Lib.hid hb4'
          have HIR4 := Lib.hid ((HIR3.out.below (Below.refl w3.heap.size w3).drew).below hb4)
          have HXU4 := Lib.hid ((HXU.out.below (Below.refl w3.heap.size w3).drew).below hb4)
          have HXY := Lib.hid (hxy w HU.out)
          have HUP := Lib.hid (fun u z (h : BS w u z) => h.below hb4')
          clear hb4 hb4' hxy HXU HIR3 d0 d1 d2 d3
          unfold maxLen at hxc hyc
          clear HRT HUW HKD HCW
          cases st with
          | none =>
            rw [show dN none kk sz = 0 from rfl]
            generalize (tTake (pGet none) kk sz).isSome = ok at *
            generalize (takeX (pGet none) kk sz).length = mx1 at *
            generalize (takeY (pGet none) kk sz).length = my1 at *
            generalize takeN (pGet none) kk sz = nn at *
            clear HU HMU
            have HX0 : Hid (BS w4 (.slice pu mxu cu) []) := HXU4
            have f1 := HX0.out.to_string
            have f2 := (BS.nil w4).to_string
            have HI0 : Hid (IsR w4 w.heap.size br none) := HIR4
            have HLF := Lib.hid (rleft_any w.heap.size br none w4 HI0.out)
            rw [show rLen none = 0 from rfl] at HLF
            clear HXU4 HXY HIR4 HX0
            generalize (ByteArray.mk ([] : List UInt8).toArray) = S0 at *
            go_wp2_with fail
            refine HLF.out.mono ?_
            rintro e w5 ⟨rfl, nd, rfl⟩
            go_wp2_with fail
            refine (rend_any w.heap.size br none _ (HI0.out.drewN nd)).mono ?_
            rintro e w6 ⟨rfl, nd2, rfl⟩
            rw [if_neg (show ¬ (none : Option (List UInt8)) = some [] from by simp)]
            have HFW : Hid (Below w.heap.size w ((w4.drewN nd).drewN nd2) ∧ IsR ((w4.drewN nd).drewN nd2) w.heap.size br none) := Lib.hid ⟨HBW4.out.trans ⟨rfl, rfl, rfl, Nat.le_refl _, fun _ _ => rfl⟩, (HI0.out.drewN nd).drewN nd2⟩
            generalize (w4.drewN nd).drewN nd2 = wl at *
            go_wp2
            go_roundw
            case rel => exact ⟨k + 1, none, by omega, by go_num, rfl, BS.nil w, HFW.out.2, HFW.out.1⟩
            case measure => simp [intOf]; omega
          | some l0 =>
            rw [show pGet (some l0) = l0 from rfl] at *
            cases ht : tTake l0 kk sz with
            | none =>
              have hd : dN (some l0) kk sz = 0 ∧ dX (some l0) kk sz = [] ∧ dS (some l0) kk sz = none ∧ takeN l0 kk sz = 0 ∧ takeX l0 kk sz = [] ∧ takeY l0 kk sz = [] := by
                show takeN l0 kk sz = 0 ∧ takeX l0 kk sz = [] ∧ (tTake l0 kk sz).map _ = none ∧ _
                unfold takeN takeX takeY
                rw [ht]
                exact ⟨rfl, rfl, rfl, rfl, rfl, rfl⟩
              rw [hd.2.1] at HXU4
              rw [hd.2.2.1] at HIR4
              rw [hd.1, hd.2.2.2.1, hd.2.2.2.2.1, hd.2.2.2.2.2]
              clear hd ht HU HMU
              have HX0 : Hid (BS w4 (.slice pu mxu cu) []) := HXU4
              have f1 := HX0.out.to_string
              have f2 := (BS.nil w4).to_string
              have HI0 : Hid (IsR w4 w.heap.size br none) := HIR4
              have HLF := Lib.hid (rleft_any w.heap.size br none w4 HI0.out)
              rw [show rLen none = 0 from rfl] at HLF
              clear HXU4 HXY HIR4 HX0
              generalize (ByteArray.mk ([] : List UInt8).toArray) = S0 at *
              go_wp2_with fail
              refine HLF.out.mono ?_
              rintro e w5 ⟨rfl, nd, rfl⟩
              go_wp2_with fail
              refine (rend_any w.heap.size br none _ (HI0.out.drewN nd)).mono ?_
              rintro e w6 ⟨rfl, nd2, rfl⟩
              rw [if_neg (show ¬ (none : Option (List UInt8)) = some [] from by simp)]
              have HFW : Hid (Below w.heap.size w ((w4.drewN nd).drewN nd2) ∧ IsR ((w4.drewN nd).drewN nd2) w.heap.size br none) := Lib.hid ⟨HBW4.out.trans ⟨rfl, rfl, rfl, Nat.le_refl _, fun _ _ => rfl⟩, (HI0.out.drewN nd).drewN nd2⟩
              generalize (w4.drewN nd).drewN nd2 = wl at *
              go_wp2
              go_roundw
              case rel => exact ⟨k + 1, none, by omega, by go_num, rfl, BS.nil w, HFW.out.2, HFW.out.1⟩
              case measure => simp [intOf]; omega
            | some q =>
              obtain ⟨nn, xx, yy⟩ := q
              have hd : dN (some l0) kk sz = nn ∧ dX (some l0) kk sz = xx ∧ dS (some l0) kk sz = some yy ∧ takeN l0 kk sz = nn ∧ takeX l0 kk sz = xx ∧ takeY l0 kk sz = yy := by
                show takeN l0 kk sz = nn ∧ takeX l0 kk sz = xx ∧ (tTake l0 kk sz).map _ = some yy ∧ _
                unfold takeN takeX takeY
                rw [ht]
                exact ⟨rfl, rfl, rfl, rfl, rfl, rfl⟩
              rw [hd.2.1] at HXU4
              rw [hd.2.2.1] at HIR4
              rw [hd.2.2.2.2.1, hd.2.2.2.2.2] at HXY
              rw [hd.1, hd.2.2.2.1, hd.2.2.2.2.1, hd.2.2.2.2.2]
              clear hd ht HU HMU hxb hyb
              have HY := Lib.hid HXY.out.2
              have f1 := HXU4.out.to_string
              have f2 := (HUP.out _ _ HXY.out.1).to_string
              have HLF := Lib.hid (rleft_any w.heap.size br (some yy) w4 HIR4.out)
              have HEN := Lib.hid (fun nd => rend_any w.heap.size br (some yy) (w4.drewN nd) (HIR4.out.drewN nd))
              rw [show rLen (some yy) = yy.length from rfl] at HLF
              have hyl : ((if some yy = some [] then (0 : Int) else 4) = if yy.length = 0 then 0 else 4) := by
                cases yy <;> simp
              rw [hyl] at HEN
              clear hyl HXU4 HXY
              generalize xx.length = mx1 at *
              generalize hmy : yy.length = my1 at *
              clear hmy
              generalize (ByteArray.mk xx.toArray) = S0 at *
              rcases Nat.eq_zero_or_pos my1 with rfl | hpos
              · rw [if_pos (show (0 : Nat) = 0 from rfl)] at HEN
                go_wp2_with fail
                refine HLF.out.mono ?_
                rintro e w5 ⟨rfl, nd, rfl⟩
                go_wp2_with fail
                refine (HEN.out nd).mono ?_
                rintro e w6 ⟨rfl, nd2, rfl⟩
                have HFW : Hid (Below w.heap.size w ((w4.drewN nd).drewN nd2) ∧ IsR ((w4.drewN nd).drewN nd2) w.heap.size br (some yy)) := Lib.hid ⟨HBW4.out.trans ⟨rfl, rfl, rfl, Nat.le_refl _, fun _ _ => rfl⟩, (HIR4.out.drewN nd).drewN nd2⟩
                generalize (w4.drewN nd).drewN nd2 = wl at *
                go_wp2
                go_roundw
                case rel => exact ⟨k + 1, some yy, by omega, by go_num, rfl, HY.out, HFW.out.2, HFW.out.1⟩
                case measure => simp [intOf]; omega
              · rw [if_neg (by omega)] at HEN
                go_wp2_with fail
                refine HLF.out.mono ?_
                rintro e w5 ⟨rfl, nd, rfl⟩
                go_wp2_with fail
                refine (HEN.out nd).mono ?_
                rintro e w6 ⟨rfl, nd2, rfl⟩
                have HFW : Hid (Below w.heap.size w ((w4.drewN nd).drewN nd2) ∧ IsR ((w4.drewN nd).drewN nd2) w.heap.size br (some yy)) := Lib.hid ⟨HBW4.out.trans ⟨rfl, rfl, rfl, Nat.le_refl _, fun _ _ => rfl⟩, (HIR4.out.drewN nd).drewN nd2⟩
                generalize (w4.drewN nd).drewN nd2 = wl at *
                go_wp2
                go_roundw
                case rel => exact ⟨k + 1, some yy, by omega, by go_num, rfl, HY.out, HFW.out.2, HFW.out.1⟩
                case measure => simp [intOf]; omega
        · obtain rfl : k = n := by omega
          clear hbw HU
          generalize (pGet st).length = mu at *
          go_wp2_with fail
          refine (rfail_any w.heap.size br st wr HIR.out).mono ?_
          rintro e w5 ⟨rfl, hr⟩
          have HB5 := Lib.hid (HBW.out.trans hr.2.1)
          have HI5 := Lib.hid hr.1
          clear hr
          have HLF := Lib.hid (rleft_any w.heap.size br none w5 HI5.out)
          rw [show rLen none = 0 from rfl] at HLF
          go_wp2_with fail
          refine HLF.out.mono ?_
          rintro e w6 ⟨rfl, nd, rfl⟩
          have HI6 := Lib.hid (HI5.out.drewN nd)
          have HB6 : Hid (Below w.heap.size w (w5.drewN nd)) := Lib.hid (HB5.out.trans ⟨rfl, rfl, rfl, Nat.le_refl _, fun _ _ => rfl⟩)
          generalize w5.drewN nd = w6 at *
          go_wp2_with fail
          refine (rbytes_bad w.heap.size br none 0 (by omega) (fun _ h => by cases h) w6 HI6.out).mono ?_
          rintro e w7 ⟨rfl, hr⟩
          have HB7 := Lib.hid (HB6.out.trans hr.2.1)
          have HI7 := Lib.hid hr.1
          clear hr
          go_wp2_with fail
          refine (rend_any w.heap.size br none w7 HI7.out).mono ?_
          rintro e w8 ⟨rfl, nd2, rfl⟩
          rw [if_neg (show ¬ (none : Option (List UInt8)) = some [] from by simp)]
          have HB8 : Hid (Below w.heap.size w (w7.drewN nd2)) := Lib.hid (HB7.out.trans ⟨rfl, rfl, rfl, Nat.le_refl _, fun _ _ => rfl⟩)
          generalize w7.drewN nd2 = w8 at *
          go_wp2_with fail
          refine (known01_any _).mono ?_
          rintro e w9 ⟨rfl, hb9⟩
          go_wp2
          go_ret
          exact ⟨rfl, below_callW HB8.out hb9⟩

set_option maxRecDepth 100000 in
theorem lifted (os : Os) (started : os.Started) (H : Type) (enc : TypeId × Value → H) :
    ReturnsInHanded {} Try.checked os 8 .any (Rows.wireTakesSpec.pre6 enc Try.prog Try.f8 Rows.wireTakesRow.domain false) (Rows.wireTakesSpec.post enc Try.prog Try.f8 false true false false) := by
  refine returnsInHanded_of_change (C := Try.checked) own started (by kernel_rfl) Try.func8
    (ChangeSpec.witness6 (enc := enc) (C := Try.checked) false ⟨#[], #[.slice none 0 0, .slice none 0 0], []⟩ 8 (by kernel_rfl) (by kernel_rfl) (by kernel_rfl) (by kernel_rfl)) ?_
  intro W base args ds gs before hval0 hW hcnd _
  have hval : ∀ (j : Nat) t v, Try.f8.params[j]? = some t → args[j]? = some v → Value.okWide Try.prog W .any base t v := hval0
  have hW' := hW
  obtain ⟨p, q, hA0, hV, rfl, hfz, hnd⟩ := hW
  have hA : DataW.TrodAll enc Try.prog W 0 (fun _ => true) true Try.f8.params.toList args.toList ds p := hA0
  rw [Try.params8] at hA hval
  obtain ⟨v0, vs0, d0, ds0, p0, q0, hargs, rfl, rfl, h0, r0⟩ := trodAll_cons hA
  obtain ⟨v1, vs1, d1, ds1, p1, q1, rfl, rfl, rfl, h1, r1⟩ := trodAll_cons r0
  obtain ⟨rfl, rfl, rfl⟩ := trodAll_nil r1
  obtain rfl : args = #[v0, v1] := by cases args; simp_all
  obtain ⟨b, hb⟩ := open_bytes (hval 0 _ v0 rfl rfl) h0
  obtain ⟨l, p', n, cap, rfl, hn, hs⟩ := Go.Proofs.Ytfpcpnjegbmdbaa.wirePuts.open_puts' (hval 1 _ v1 rfl rfl) h1
  clear hA0 hval0
  refine (walk v0 b l p' n cap hn W hb hs).mono fun e W' ⟨he, hg⟩ => ?_
  subst he
  exact ⟨_, rfl, post_law laidOut rfl hW' ⟨rfl, rfl, rfl⟩ (by kernel_rfl) hg Try.underlying4 rfl⟩

theorem proved : Rows.WireTakesSaid :=
  OpenClaim.holds_of_wide 8 Try.f8 rfl rfl rfl rfl rfl rfl rfl ⟨rfl, rfl, rfl, rfl, rfl⟩ rfl rfl rfl rfl rfl (by kernel_rfl) Try.func8 (by kernel_rfl)
    (of_decide_eq_true (by kernel_rfl)) (by unfold Func.isWrapper; first | (rw [if_pos (by decide +kernel)]; kernel_rfl) | (rw [if_neg (by decide +kernel)]; exact ⟨rfl, rfl⟩))
    (fun os started H enc _ => lifted os started H enc)
#print axioms proved
end Go.Proofs.Ytfpcpnjegbmdbaa.wireTakes
