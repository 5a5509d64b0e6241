/- WireLists returns true for every list of events, and leaves the memory that was there as it was. -/
import Derived.Test.YtfpcpnjegbmdbaaListC
import Derived.Deep.RegionHeld3
set_option linter.unusedVariables false
set_option linter.unusedSimpArgs false
namespace Go.Proofs.Ytfpcpnjegbmdbaa.wireLists
open Go.ChangeShapes Go.WideShapes Go.ChangeAt Go.RowKit

set_option maxRecDepth 4000 in
set_option maxHeartbeats 4000000 in
theorem walk (l : List Ev) (p : Option Addr) (n cap : Nat) (hn : n = l.length) (w : World) (hs : EvS w (.slice p n cap) l) :
    Calls Try.prog 9 #[.slice p n cap] w fun e w' => e = .returned (.bool true) ∧ Below w.heap.size w w' := by
  obtain ⟨p', cap', e, h2, h3, h4, h5⟩ := hs
  injection e with e1 e2 e3
  subst e1; subst e3
  have H5 := Lib.hid h5; clear h5
  have H4 := Lib.hid h4; clear h4
  rw [← hn] at h2
  have HN := Lib.hid hn; clear hn e2
  unfold maxLen at h3
  by_cases h40 : 40 < n
  · go_enter Try.func9, Try.ntmps9
    go_wp2_with fail
    refine (known01_any _).mono ?_
    rintro e w1 ⟨rfl, hb1⟩
    go_wp2
    go_ret
    exact ⟨rfl, hb1⟩
  · have HW0 := Lib.hid (new_writer w)
    go_enter Try.func9, Try.ntmps9
    go_wp2_with fail
    refine (wcount_any _ _ _ _ (n : Int) (by omega) (by decide) _ HW0.out).mono ?_
    rintro e w1 ⟨rfl, hw1⟩
    rw [if_neg (by omega), Int.toNat_natCast, show (2 : Int) = ((2 : Nat) : Int) from rfl, wnum_ok (by decide) (by omega), List.nil_append] at hw1
    have HI1 := Lib.hid hw1.1
    have HB1 := Lib.hid (((Below.refl w.heap.size w).alloc (Nat.le_refl _) _).trans hw1.2.1)
    clear hw1
    go_wp2_with fail
    have HSM : Hid (∀ (k : Nat) (x : Ev), l[k]? = some x → x.wf) := Lib.hid (fun k x hx => (H4.out x (List.mem_of_getElem? hx)).1)
    go_loopw [4] (fun i wr => ∃ k : Nat, k ≤ n ∧ i = .int .i64 k ∧ IsW wr w.heap.size w.heap.size (9 + 700 * k) (some (Wire.be n 2 ++ encL (l.take k))) ∧ Below w.heap.size w wr ∧ ∀ (j : Nat) (x : Ev), j < k → l[j]? = some x → x.note.size ≤ 300 ∧ x.car.size ≤ 300) (fun i _ => n - (intOf i).toNat)
    case atStart => exact ⟨0, Nat.zero_le _, rfl, HI1.out, HB1.out, fun j x h => absurd h (Nat.not_lt_zero j)⟩
    case round =>
      obtain ⟨k, hk, rfl, hisw, hbw, hsm⟩ := hrel
      have HIW := Lib.hid hisw
      have HBW := Lib.hid hbw
      have HSS := Lib.hid hsm
      clear hisw hsm HI1 HB1 HW0
      by_cases hlt : k < n
      · obtain ⟨x, hx⟩ : ∃ x, l[k]? = some x := ⟨_, List.getElem?_eq_getElem (by have := HN.out; omega)⟩
        have HET := Lib.hid (encL_take hx)
        have HXX := Lib.hid hx
        obtain ⟨b, o, rfl, hbs, hc⟩ := H5.out (by intro h; subst h; simp at hx)
        have hat := (hc k x hx).of_cells (w' := wr) fun j => hbw.cell (p := ⟨b, j, none⟩) hbs
        have hwf := HSM.out k x hx
        clear hx hc hbw
        obtain ⟨e0, e1, e2, e3, e4, e5, e6⟩ := hat
        obtain ⟨dy, co, fr, to, lv, nt, ca⟩ := x
        obtain ⟨hdy, hco, hfr, hto⟩ := hwf
        simp only at e0 e1 e2 e3 e4 e5 e6 hdy hco hfr hto
        by_cases hn3 : 300 < nt.size
        · go_wp2_with fail
          refine (known01_any _).mono ?_
          rintro e w2 ⟨rfl, hb2⟩
          go_wp2
          go_ret
          exact ⟨rfl, below_callW HBW.out hb2⟩
        · by_cases hc3 : 300 < ca.size
          · go_wp2_with fail
            refine (known01_any _).mono ?_
            rintro e w2 ⟨rfl, hb2⟩
            go_wp2
            go_ret
            exact ⟨rfl, below_callW HBW.out hb2⟩
          · have hcw : ∀ W, Below w.heap.size w W → W.cell? ⟨b, o + k * 7, none⟩ = some (.int .i64 dy) ∧ W.cell? ⟨b, o + k * 7 + 1, none⟩ = some (.int .u64 (co : Int)) ∧ W.cell? ⟨b, o + k * 7 + 2, none⟩ = some (.int .u8 (fr : Int)) ∧ W.cell? ⟨b, o + k * 7 + 3, none⟩ = some (.int .u8 (to : Int)) ∧ W.cell? ⟨b, o + k * 7 + 4, none⟩ = some (.bool lv) ∧ W.cell? ⟨b, o + k * 7 + 5, none⟩ = some (.string nt) ∧ W.cell? ⟨b, o + k * 7 + 6, none⟩ = some (.string ca) := fun W h => by
              have e := fun j => (h.cell (p := ⟨b, j, none⟩) hbs).trans (HBW.out.cell (p := ⟨b, j, none⟩) hbs).symm
              exact ⟨(e _).trans e0, (e _).trans e1, (e _).trans e2, (e _).trans e3, (e _).trans e4, (e _).trans e5, (e _).trans e6⟩
            have HCW := Lib.hid hcw
            clear hcw
            generalize hL0 : Wire.be n 2 ++ encL (l.take k) = L0 at *
            have HL0 := Lib.hid hL0
            clear hL0
            have zf : IntKind.u64.wrap (fr : Int) = (fr : Int) := by rw [IntKind.wrap_u64]; omega
            have zt : IntKind.u64.wrap (to : Int) = (to : Int) := by rw [IntKind.wrap_u64]; omega
            have hi1 := HIW.out.drew
            have hb1 := HBW.out.drew
            go_wp2_with fail
            go_region_held3 (fun w' => w'.cell? ⟨b, o + k * 7, none⟩ = some (.int .i64 dy) ∧ w'.cell? ⟨b, o + k * 7 + 1, none⟩ = some (.int .u64 (co : Int)) ∧ w'.cell? ⟨b, o + k * 7 + 2, none⟩ = some (.int .u8 (fr : Int)) ∧ w'.cell? ⟨b, o + k * 7 + 3, none⟩ = some (.int .u8 (to : Int)) ∧ w'.cell? ⟨b, o + k * 7 + 4, none⟩ = some (.bool lv) ∧ w'.cell? ⟨b, o + k * 7 + 5, none⟩ = some (.string nt) ∧ w'.cell? ⟨b, o + k * 7 + 6, none⟩ = some (.string ca)) (first | exact HCW.out _ hb1 | go_keep) (first
              | (go_at_call 38; refine (wint_ok hi1 (by omega) dy).mono ?_; rintro e w1 ⟨rfl, hw1⟩; have hi1 := hw1.1; have hb1 : Below w.heap.size w w1 := Below.trans hb1 hw1.2.1; clear hw1)
              | (go_at_call 21; refine (wnumber_okz hi1 (by omega) _ _ (by decide) (by first | exact hco | exact hfr | exact hto)).mono ?_; rintro e w1 ⟨rfl, hw1⟩; have hi1 := hw1.1; have hb1 : Below w.heap.size w w1 := Below.trans hb1 hw1.2.1; clear hw1)
              | (go_at_call 39; refine (wflag_ok hi1 (by omega) lv).mono ?_; rintro e w1 ⟨rfl, hw1⟩; have hi1 := hw1.1; have hb1 : Below w.heap.size w w1 := Below.trans hb1 hw1.2.1; clear hw1)
              | (go_at_call 40; refine (wtext_ok hi1 _ (by omega) (by omega)).mono ?_; rintro e w1 ⟨rfl, hw1⟩; have hi1 := hw1.1; have hb1 : Below w.heap.size w w1 := Below.trans hb1 hw1.2.1; clear hw1))
            have heq : L0 ++ Wire.be (Go.Proofs.Ytfpcpnjegbmdbaa.u64 dy) 8 ++ Wire.be co (Int.toNat 8) ++ Wire.be fr (Int.toNat 1) ++ Wire.be to (Int.toNat 1) ++ Wire.be (if lv = true then 1 else 0) 1 ++ encB (bytesOf nt) ++ encB (bytesOf ca) = Wire.be n 2 ++ encL (l.take (k + 1)) := by
              rw [HET.out, ← HL0.out]
              unfold encE
              simp only [List.append_assoc]
              rfl
            rw [heq] at hi1
            have HFI := Lib.hid (hi1.mono (show _ ≤ 9 + 700 * (k + 1) by omega))
            have HFB := Lib.hid hb1
            have HFS : Hid (∀ (j : Nat) (x : Ev), j < k + 1 → l[j]? = some x → x.note.size ≤ 300 ∧ x.car.size ≤ 300) := Lib.hid (fun j x hj hx => by
              by_cases h : j < k
              · exact HSS.out j x h hx
              · obtain rfl : j = k := by omega
                have h2 := hx.symm.trans HXX.out
                injection h2 with h2
                subst h2
                exact ⟨by show nt.size ≤ 300; omega, by show ca.size ≤ 300; omega⟩)
            clear heq hi1 hb1
            go_wp2
            go_roundw
            case rel => exact ⟨k + 1, by omega, by go_num, HFI.out, HFB.out, HFS.out⟩
            case measure => simp [intOf]; omega
      · obtain rfl : k = n := by omega
        have hlk : l.take k = l := List.take_of_length_le (by have := HN.out; omega)
        rw [hlk] at HIW
        have HSZ : Hid (∀ (j : Nat) (x : Ev), l[j]? = some x → x.note.size ≤ 300 ∧ x.car.size ≤ 300) := Lib.hid (fun j x hx => HSS.out j x (by have := (List.getElem?_eq_some_iff.1 hx).1; have := HN.out; omega) hx)
        clear HSS hlk hlt hbw
        obtain ⟨B, hBd⟩ : ∃ B, B = Wire.be k 2 ++ encL l := ⟨_, rfl⟩
        rw [← hBd] at HIW
        have hBl : 2 ≤ B.length := by rw [hBd, List.length_append, Wire.be_length]; omega
        have HBD := Lib.hid hBd
        clear hBd
        go_wp2_with fail
        refine (wend_some _ _ _ B (by omega) _ HIW.out).mono ?_
        rintro e wB ⟨v, rfl, hown, hbB⟩
        have HBB := Lib.hid (HBW.out.trans (hbB.mono HBW.out.size))
        have HOB := Lib.hid hown
        have HVB := Lib.hid (BS.of_own hown)
        have hBm : B.length ≤ 1000000 := by have := HIW.out.pieces; obtain ⟨_, _, _, _, _, h⟩ := this; omega
        obtain ⟨qb, cb, rfl⟩ := own_form hown
        clear hown hbB HIW HBW
        have hcb := HVB.out.bounds'
        have HRD := Lib.hid (read_any _ B (by omega) wB HVB.out)
        obtain ⟨m, hm⟩ : ∃ m, B.length = m + 1 := ⟨B.length - 1, by omega⟩
        have HM := Lib.hid hm
        rw [hm] at HRD hcb hBl hBm ⊢
        rw [hm] at HVB HOB
        obtain ⟨-, hcb1, hcb2⟩ := hcb
        unfold maxLen at hcb2
        clear hm
        go_wp2_with fail
        refine HRD.out.mono ?_
        rintro e w2 ⟨br, rfl, hr, hb2⟩
        have HI2 := Lib.hid hr
        have HB2 := Lib.hid hb2
        clear hr hb2 HRD
        go_wp2_with fail
        refine (rcount_any _ br _ _ HI2.out).mono ?_
        rintro e w3 ⟨rfl, hr⟩
        have h1 := rnum_be k 2 (encL l) (by decide) (by omega)
        rw [show ((2 : Nat) : Int) = 2 from rfl, ← HBD.out] at h1
        rw [h1.2] at hr
        rw [h1.1]
        have HI3 := Lib.hid hr.1
        have HB3 := Lib.hid (HB2.out.trans hr.2.1)
        clear hr h1 HI2 HB2
        go_wp2_with fail
        have hbw0 := HBB.out.size
        go_loopw [8] (fun i wr => ∃ j : Nat, j ≤ k ∧ i = .int .i64 j ∧ IsR wr wB.heap.size br (some (encL (l.drop j))) ∧ Below wB.heap.size wB wr) (fun i _ => k - (intOf i).toNat)
        case atStart => exact ⟨0, Nat.zero_le _, rfl, HI3.out, HB3.out⟩
        case round =>
          obtain ⟨j, hj, rfl, hisr, hbw⟩ := hrel
          have HIR := Lib.hid hisr
          have HBW := Lib.hid hbw
          clear hisr HI3 HB3
          by_cases hlt : j < k
          · obtain ⟨x, hx⟩ : ∃ x, l[j]? = some x := ⟨_, List.getElem?_eq_getElem (by have := HN.out; omega)⟩
            have hwf := HSM.out j x hx
            have hsz := HSZ.out j x hx
            have hED := encL_drop hx
            rw [hED] at HIR
            obtain ⟨b, o, rfl, hbs, hc⟩ := H5.out (by intro h; subst h; simp at hx)
            have hat := (hc j x hx).of_cells (w' := wr) fun j => (hbw.cell (p := ⟨b, j, none⟩) (by show b < _; omega)).trans (HBB.out.cell (p := ⟨b, j, none⟩) hbs)
            clear hx hc hbw hED
            obtain ⟨e0, e1, e2, e3, e4, e5, e6⟩ := hat
            obtain ⟨dy, co, fr, to, lv, nt, ca⟩ := x
            obtain ⟨hdy, hco, hfr, hto⟩ := hwf
            obtain ⟨hnt, hca⟩ := hsz
            simp only at e0 e1 e2 e3 e4 e5 e6 hdy hco hfr hto hnt hca
            have hcw : ∀ W, Below wB.heap.size wB W → W.cell? ⟨b, o + j * 7, none⟩ = some (.int .i64 dy) ∧ W.cell? ⟨b, o + j * 7 + 1, none⟩ = some (.int .u64 (co : Int)) ∧ W.cell? ⟨b, o + j * 7 + 2, none⟩ = some (.int .u8 (fr : Int)) ∧ W.cell? ⟨b, o + j * 7 + 3, none⟩ = some (.int .u8 (to : Int)) ∧ W.cell? ⟨b, o + j * 7 + 4, none⟩ = some (.bool lv) ∧ W.cell? ⟨b, o + j * 7 + 5, none⟩ = some (.string nt) ∧ W.cell? ⟨b, o + j * 7 + 6, none⟩ = some (.string ca) := fun W h => by
              have e := fun j => (h.cell (p := ⟨b, j, none⟩) (by show b < _; omega)).trans (HBW.out.cell (p := ⟨b, j, none⟩) (by show b < _; omega)).symm
              exact ⟨(e _).trans e0, (e _).trans e1, (e _).trans e2, (e _).trans e3, (e _).trans e4, (e _).trans e5, (e _).trans e6⟩
            have HCW := Lib.hid hcw
            clear hcw e0 e1 e2 e3 e4 e5 e6
            unfold encE at HIR
            simp only [List.append_assoc] at HIR
            have f1 := fun W => neqEv dy co fr to lv nt ca W
            have f2 := fun x y xs ys W => guardEv x y xs ys W
            go_wp2_with fail
            refine (rint_ok HIR.out hdy).mono ?_
            rintro e x1 ⟨rfl, hr⟩
            have HR1 := Lib.hid hr.1
            have HX1 := Lib.hid (HBW.out.trans hr.2.1)
            clear hr
            go_wp2_with fail
            refine (rnumber_ok 8 HR1.out (by decide) hco).mono ?_
            rintro e x2 ⟨rfl, hr⟩
            have HR2 := Lib.hid hr.1
            have HX2 := Lib.hid (HX1.out.trans hr.2.1)
            clear hr
            have zf : IntKind.u8.wrap (fr : Int) = (fr : Int) := by rw [IntKind.wrap_u8]; omega
            have zt : IntKind.u8.wrap (to : Int) = (to : Int) := by rw [IntKind.wrap_u8]; omega
            have hbx := HX2.out.size
            go_wp2_with fail
            have HRA := Lib.hid (HR2.out.below ((Below.refl x2.heap.size x2).alloc (Nat.le_refl _) (.cells #[.int .i64 dy, .int .u64 (co : Int), .int .u8 0, .int .u8 0, .bool false, .string ⟨#[]⟩, .string ⟨#[]⟩] 72)))
            have HXA := Lib.hid (HX2.out.alloc hbx (.cells #[.int .i64 dy, .int .u64 (co : Int), .int .u8 0, .int .u8 0, .bool false, .string ⟨#[]⟩, .string ⟨#[]⟩] 72))
            have hrow2 : (x2.alloc (.cells #[.int .i64 dy, .int .u64 (co : Int), .int .u8 0, .int .u8 0, .bool false, .string ⟨#[]⟩, .string ⟨#[]⟩] 72)).heap[x2.heap.size]? = _ := new_rowW _ _ _ rfl
            generalize x2.alloc (.cells #[.int .i64 dy, .int .u64 (co : Int), .int .u8 0, .int .u8 0, .bool false, .string ⟨#[]⟩, .string ⟨#[]⟩] 72) = xA at *
            generalize x2.heap.size = bx at *
            refine (rnumber_ok 1 HRA.out (by decide) hfr).mono ?_
            rintro e x3 ⟨rfl, hr⟩
            have HR3 := Lib.hid hr.1
            have HX3 := Lib.hid (HXA.out.trans hr.2.1)
            have hrow3 := ev_keep hr hrow2
            have HROW3 := Lib.hid hrow3
            clear hr hrow2
            go_wp2_with fail
            refine (rnumber_ok 1 HR3.out (by decide) hto).mono ?_
            rintro e x4 ⟨rfl, hr⟩
            have HR4 := Lib.hid hr.1
            have HX4 := Lib.hid (HX3.out.trans hr.2.1)
            have hrow4 := ev_keep hr hrow3
            have HROW4 := Lib.hid hrow4
            clear hr hrow3
            have hc4 := fun j => cell_of_row x4 bx j _ _ _ hrow4
            have hf4 := fun j => frozen_of_row x4 bx j _ _ hrow4
            have hs40 := ev_store HR4.out HROW4.out hbx HX4.out 2 (.int .u8 (fr : Int))
            have hs41 := ev_store hs40.1 hs40.2.1 hbx hs40.2.2 3 (.int .u8 (to : Int))
            have HRS4 := Lib.hid hs41.1
            have HBS4 := Lib.hid hs41.2.2
            have HROS4 := Lib.hid hs41.2.1
            clear hs40 hs41 hrow4
            go_wp2_with fail
            generalize ((x4.setCell ⟨bx, 2, none⟩ (.int .u8 (fr : Int))).setCell ⟨bx, 3, none⟩ (.int .u8 (to : Int))) = xs4 at *
            have hrow4 := HROS4.out
            refine (rflag_ok HRS4.out).mono ?_
            rintro e x5 ⟨rfl, hr⟩
            have HR5 := Lib.hid hr.1
            have HX5 := Lib.hid (HBS4.out.trans hr.2.1)
            have hrow5 := ev_keep hr hrow4
            have HROW5 := Lib.hid hrow5
            clear hr hrow4 hc4 hf4
            have hc5 := fun j => cell_of_row x5 bx j _ _ _ hrow5
            have hf5 := fun j => frozen_of_row x5 bx j _ _ hrow5
            have hs50 := ev_store HR5.out HROW5.out hbx HX5.out 4 (.bool lv)
            have HRS5 := Lib.hid hs50.1
            have HBS5 := Lib.hid hs50.2.2
            have HROS5 := Lib.hid hs50.2.1
            clear hs50 hrow5
            go_wp2_with fail
            generalize (x5.setCell ⟨bx, 4, none⟩ (.bool lv)) = xs5 at *
            have hrow5 := HROS5.out
            refine (rtext_ok HRS5.out hnt).mono ?_
            rintro e x6 ⟨rfl, hr⟩
            have HR6 := Lib.hid hr.1
            have HX6 := Lib.hid (HBS5.out.trans hr.2.1)
            have hrow6 := ev_keep hr hrow5
            have HROW6 := Lib.hid hrow6
            clear hr hrow5 hc5 hf5
            have hc6 := fun j => cell_of_row x6 bx j _ _ _ hrow6
            have hf6 := fun j => frozen_of_row x6 bx j _ _ hrow6
            have hs60 := ev_store HR6.out HROW6.out hbx HX6.out 5 (.string nt)
            have HRS6 := Lib.hid hs60.1
            have HBS6 := Lib.hid hs60.2.2
            have HROS6 := Lib.hid hs60.2.1
            clear hs60 hrow6
            go_wp2_with fail
            generalize (x6.setCell ⟨bx, 5, none⟩ (.string nt)) = xs6 at *
            have hrow6 := HROS6.out
            refine (rtext_ok HRS6.out hca).mono ?_
            rintro e x7 ⟨rfl, hr⟩
            have HR7 := Lib.hid hr.1
            have HX7 := Lib.hid (HBS6.out.trans hr.2.1)
            have hrow7 := ev_keep hr hrow6
            have HROW7 := Lib.hid hrow7
            clear hr hrow6 hc6 hf6
            have hc7 := fun j => cell_of_row x7 bx j _ _ _ hrow7
            have hf7 := fun j => frozen_of_row x7 bx j _ _ hrow7
            have hs70 := ev_store HR7.out HROW7.out hbx HX7.out 6 (.string ca)
            have HRS7 := Lib.hid hs70.1
            have HBS7 := Lib.hid hs70.2.2
            have HROS7 := Lib.hid hs70.2.1
            clear hs70 hrow7
            go_wp2_with fail
            clear hc7 hf7
            generalize x7.setCell ⟨bx, 6, none⟩ (.string ca) = xs7 at *
            obtain ⟨e0, e1, e2, e3, e4, e5, e6⟩ := HCW.out _ HBS7.out
            have hcF : ∀ j, xs7.cell? ⟨bx, j, none⟩ = (#[Value.int .i64 dy, .int .u64 (co : Int), .int .u8 (fr : Int), .int .u8 (to : Int), .bool lv, .string nt, .string ca] : Array Value)[j]? := fun j => cell_of_row xs7 bx j _ _ _ HROS7.out
            go_wp2
            go_quiet (fail)
            go_wp2
            go_roundw
            case rel => exact ⟨j + 1, by omega, by go_num, HRS7.out.drewN _, HBS7.out.trans ⟨rfl, rfl, rfl, Nat.le_refl _, fun _ _ => rfl⟩⟩
            case measure => simp [intOf]; omega
          · obtain rfl : j = k := by omega
            have hdr : encL (l.drop j) = [] := by rw [List.drop_of_length_le (by have := HN.out; omega)]; rfl
            rw [hdr] at HIR
            clear hdr hlt hbw
            go_wp2_with fail
            refine (rend_any _ _ _ _ HIR.out).mono ?_
            rintro e w4 ⟨rfl, nd, rfl⟩
            rw [if_pos rfl]
            have HB4 : Hid (Below wB.heap.size wB (wr.drewN nd)) := Lib.hid (HBW.out.trans ⟨rfl, rfl, rfl, Nat.le_refl _, fun _ _ => rfl⟩)
            generalize wr.drewN nd = w4 at *
            have hdl : B.take m = B.dropLast := by rw [List.dropLast_eq_take, HM.out]; rfl
            have HV4 := Lib.hid ((HVB.out.below HB4.out).head (k := m) (by rw [HM.out]; omega))
            rw [hdl] at HV4
            have hcut := count_cut HN.out HBD.out (by omega)
            have HCT := Lib.hid hcut.2
            have HCV := Lib.hid hcut.1
            have f1 := run_head' qb (m + 1) cb m (by omega)
            have z1 : IntKind.i64.wrap ((m : Int) + 1 - 1) = (m : Int) := by rw [IntKind.wrap_i64]; omega
            clear hdl hcut
            have HRD2 := Lib.hid (read_any _ _ (by rw [List.length_dropLast, HM.out]; omega) w4 HV4.out)
            go_wp2_with fail
            refine HRD2.out.mono ?_
            rintro e w5 ⟨b2, rfl, hr, hb5⟩
            have HI5 := Lib.hid hr
            have HB5 := Lib.hid hb5
            clear hr hb5 HRD2 f1
            go_wp2_with fail
            refine (rcount_any _ b2 _ _ HI5.out).mono ?_
            rintro e w6 ⟨rfl, hr⟩
            rw [HCV.out]
            rw [HCT.out] at hr
            have HI6 := Lib.hid hr.1
            have HB6 := Lib.hid (HB5.out.trans hr.2.1)
            have HB64 := Lib.hid ((HBB.out.trans (HB4.out.mono hbw0)))
            clear hr HI5 HB5
            go_wp2_with fail
            go_loopw [12] (fun i wr => ∃ q : Nat, q ≤ j ∧ i = .int .i64 q ∧ IsR wr w4.heap.size b2 (cutSt l j q) ∧ Below w4.heap.size w4 wr) (fun i _ => j - (intOf i).toNat)
            case atStart => exact ⟨0, Nat.zero_le _, rfl, HI6.out, HB6.out⟩
            case round =>
              obtain ⟨q, hq, rfl, hisr, hbw⟩ := hrel
              have HIQ := Lib.hid hisr
              have HBQ := Lib.hid hbw
              clear hisr hbw HI6 HB6
              by_cases hlt : q < j
              · obtain ⟨x, hx⟩ : ∃ x, l[q]? = some x := ⟨_, List.getElem?_eq_getElem (by have := HN.out; omega)⟩
                have HCN0 := Lib.hid (cut_next HN.out hx hlt (HSM.out q x hx) (HSZ.out q x hx).1 (HSZ.out q x hx).2)
                clear hx
                generalize cutSt l j q = st at *
                have HCN : Hid (rBlobS (rBlobS (if rNumV (rNumS (rNumS (rNumS st 8) 8) 2) 1 > 1 then none else rNumS (rNumS (rNumS (rNumS st 8) 8) 2) 1)) = cutSt l j (q + 1)) := Lib.hid HCN0.out
                clear HCN0
                have HK1 := Lib.hid (rint_any _ b2 st _ HIQ.out)
                generalize rNumS st 8 = t1 at *
                generalize wrap64 (rNumV st 8 : Int) = v1 at *
                go_wp2_with fail
                refine HK1.out.mono ?_
                rintro e y1 ⟨rfl, hr⟩
                have HQ1 := Lib.hid hr.1
                have HY1 := Lib.hid (HBQ.out.trans hr.2.1)
                clear hr HK1
                have HK2 := Lib.hid (rnumber_any _ b2 t1 8 _ HQ1.out)
                generalize rNumS t1 8 = t2 at *
                generalize rNumV t1 8 = v2 at *
                go_wp2_with fail
                refine HK2.out.mono ?_
                rintro e y2 ⟨rfl, hr⟩
                have HQ2 := Lib.hid hr.1
                have HY2 := Lib.hid (HY1.out.trans hr.2.1)
                clear hr HK2
                have HK3 := Lib.hid (rnumber_any _ b2 t2 2 _ HQ2.out)
                generalize rNumS t2 2 = t3 at *
                generalize rNumV t2 2 = v3 at *
                go_wp2_with fail
                refine HK3.out.mono ?_
                rintro e y3 ⟨rfl, hr⟩
                have HQ3 := Lib.hid hr.1
                have HY3 := Lib.hid (HY2.out.trans hr.2.1)
                clear hr HK3
                have HK4 := Lib.hid (rflag_any _ b2 t3 _ HQ3.out)
                generalize (if rNumV t3 1 > 1 then none else rNumS t3 1) = t4 at *
                generalize (rNumV t3 1 == 1) = v4 at *
                go_wp2_with fail
                refine HK4.out.mono ?_
                rintro e y4 ⟨rfl, hr⟩
                have HQ4 := Lib.hid hr.1
                have HY4 := Lib.hid (HY3.out.trans hr.2.1)
                clear hr HK4
                have HK5 := Lib.hid (rtext_any _ b2 t4 _ HQ4.out)
                generalize rBlobS t4 = t5 at *
                generalize (ByteArray.mk (rBlobV t4).toArray) = v5 at *
                go_wp2_with fail
                refine HK5.out.mono ?_
                rintro e y5 ⟨rfl, hr⟩
                have HQ5 := Lib.hid hr.1
                have HY5 := Lib.hid (HY4.out.trans hr.2.1)
                clear hr HK5
                have HK6 := Lib.hid (rtext_any _ b2 t5 _ HQ5.out)
                generalize rBlobS t5 = t6 at *
                generalize (ByteArray.mk (rBlobV t5).toArray) = v6 at *
                go_wp2_with fail
                refine HK6.out.mono ?_
                rintro e y6 ⟨rfl, hr⟩
                have HQ6 := Lib.hid hr.1
                have HY6 := Lib.hid (HY5.out.trans hr.2.1)
                clear hr HK6
                have HFQ : Hid (IsR y6 w4.heap.size b2 (cutSt l j (q + 1))) := Lib.hid (by rw [← HCN.out]; exact HQ6.out)
                go_wp2
                go_roundw
                case rel => exact ⟨q + 1, by omega, by go_num, HFQ.out, HY6.out⟩
                case measure => simp [intOf]; omega
              · obtain rfl : q = j := by omega
                have hcn : cutSt l q q = none := if_neg (by omega)
                rw [hcn] at HIQ
                go_wp2_with fail
                refine (rend_any _ b2 _ _ HIQ.out).mono ?_
                rintro e w7 ⟨rfl, nd2, rfl⟩
                rw [if_neg (show ¬ (none : Option (List UInt8)) = some [] from by simp)]
                have HB7 : Hid (Below w.heap.size w (wr.drewN nd2)) := Lib.hid ((HB64.out.trans (HBQ.out.mono (HB64.out.size))).trans ⟨rfl, rfl, rfl, Nat.le_refl _, fun _ _ => rfl⟩)
                generalize wr.drewN nd2 = w8 at *
                go_wp2_with fail
                refine (known01_any _).mono ?_
                rintro e w9 ⟨rfl, hb9⟩
                go_wp2
                go_ret
                exact ⟨rfl, below_callW HB7.out hb9⟩

set_option maxRecDepth 100000 in
theorem lifted (os : Os) (started : os.Started) (H : Type) (enc : TypeId × Value → H) :
    ReturnsInHanded {} Try.checked os 9 .any (Rows.wireListsSpec.pre6 enc Try.prog Try.f9 Rows.wireListsRow.domain false) (Rows.wireListsSpec.post enc Try.prog Try.f9 false true false false) := by
  refine returnsInHanded_of_change (C := Try.checked) own started (by kernel_rfl) Try.func9
    (ChangeSpec.witness6 (enc := enc) (C := Try.checked) false ⟨#[], #[.slice none 0 0], []⟩ 8 (by kernel_rfl) (by kernel_rfl) (by kernel_rfl) (by kernel_rfl)) ?_
  intro W base args ds gs before hval0 hW hcnd _
  have hval : ∀ (j : Nat) t v, Try.f9.params[j]? = some t → args[j]? = some v → Value.okWide Try.prog W .any base t v := hval0
  have hW' := hW
  obtain ⟨p, q, hA0, hV, rfl, hfz, hnd⟩ := hW
  have hA : DataW.TrodAll enc Try.prog W 0 (fun _ => true) true Try.f9.params.toList args.toList ds p := hA0
  rw [Try.params9] at hA hval
  obtain ⟨v0, vs0, d0, ds0, p0, q0, hargs, rfl, rfl, h0, r0⟩ := trodAll_cons hA
  obtain ⟨rfl, rfl, rfl⟩ := trodAll_nil r0
  obtain rfl : args = #[v0] := by cases args; simp_all
  obtain ⟨l, p', n, cap, rfl, hn, hs⟩ := open_events (hval 0 _ v0 rfl rfl) h0
  clear hA0 hval0
  refine (walk l p' n cap hn W hs).mono fun e W' ⟨he, hg⟩ => ?_
  subst he
  exact ⟨_, rfl, post_law laidOut rfl hW' ⟨rfl, rfl, rfl⟩ (by kernel_rfl) hg Try.underlying4 rfl⟩

theorem proved : Rows.WireListsSaid :=
  OpenClaim.holds_of_wide 9 Try.f9 rfl rfl rfl rfl rfl rfl rfl ⟨rfl, rfl, rfl, rfl, rfl⟩ rfl rfl rfl rfl rfl (by kernel_rfl) Try.func9 (by kernel_rfl)
    (of_decide_eq_true (by kernel_rfl)) (by unfold Func.isWrapper; first | (rw [if_pos (by decide +kernel)]; kernel_rfl) | (rw [if_neg (by decide +kernel)]; exact ⟨rfl, rfl⟩))
    (fun os started H enc _ => lifted os started H enc)
#print axioms proved
end Go.Proofs.Ytfpcpnjegbmdbaa.wireLists
