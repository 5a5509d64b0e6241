/- Contract: a request's bytes (request.RequestBytes), by the contracts of its parts. -/
import Derived.Test.YtbmphlpmipkpcaaGreatRnm38

set_option linter.unusedVariables false
set_option linter.unusedSimpArgs false
namespace Go.Proofs.YtbmphlpmipkpcaaGreat
open Go.RowKit Go.Deep

namespace Rq
/-- a request's bytes -/
def encRq (x : Rqt) : List UInt8 := Wire.be x.k.toNat 1 ++ encsP (partsF x.k) x
end Rq
theorem wputs_any {w0 W : World} {g gq bw k : Nat} {l : List UInt8} {x : Rqt} (h : WPt w0 g gq bw k l x W) (hk : k + 2400 ≤ 536870912) (hsw : ∀ f ∈ Rq.partsF x.k, Rq.partB f x = true ∧ ∀ (w0 : World) (g gq bw k : Nat) (l : List UInt8) (W : World), WPt w0 g gq bw k l x W → Rq.partB f x = true → k + 400 ≤ 536870912 → Calls Tryz.prog f #[.pointer (some ⟨g, 0, none⟩)] W fun e w' => e = .returned (.tuple #[]) ∧ WPt w0 g gq bw (k + 400) (l ++ Rq.encP f x) x w' ∧ Rq.KF W w') : Calls Tryz.prog 72 #[.pointer (some ⟨g, 0, none⟩)] W fun e w' => e = .returned (.tuple #[]) ∧ WPt w0 g gq bw (k + 400 * (Rq.partsF x.k).length) (l ++ Rq.encsP (Rq.partsF x.k) x) x w' := by
  obtain ⟨cv, tv, h1, h2, h3, h4⟩ := h.ex
  have hlen := Rq.parts_len x.k
  have hc := arun_chain g gq x.k _ _ (fun j W => WPt w0 g gq bw (k + 400 * j) (l ++ Rq.encsP ((Rq.partsF x.k).take j) x) x W) W h1 h2 rfl rfl
    (fun W1 hW => by rw [List.take_zero]; unfold Rq.encsP; rw [List.append_nil, Nat.mul_zero]; exact wpt0 h hW)
    (fun j f W1 hj hs => by
      have hjl : j < (Rq.partsF x.k).length := (List.getElem?_eq_some_iff.1 hj).1
      have h5 := hsw f (List.mem_of_getElem? hj)
      refine (h5.2 w0 g gq bw _ _ W1 hs h5.1 (by omega)).mono ?_
      rintro e w' ⟨rfl, k1, k2⟩
      refine ⟨rfl, ?_, k2⟩
      rw [take_sn hj, Rq.encsP_snoc, ← List.append_assoc, show k + 400 * (j + 1) = k + 400 * j + 400 by omega]
      exact k1)
  refine hc.mono ?_
  rintro e w' ⟨rfl, hs⟩
  rw [List.take_length] at hs
  exact ⟨rfl, hs⟩
theorem isW_lower {w : World} {base b0 bw k : Nat} {l : List UInt8} (h : IsW w base bw k (some l)) (hb : b0 ≤ base) : IsW w b0 bw k (some l) := by
  obtain ⟨h0, pv, ps, vs, h1, h2, h3, h4, h5, h6⟩ := h
  exact ⟨Nat.le_trans hb h0, pv, ps, vs, h1, h2, h3, h4, own_monoT h5 hb, fun i x b hx hp => own_monoT (h6 i x b hx hp) hb⟩
attribute [local go_sem ↓] Rq_execLoad Rq_execStore

attribute [local go_sem] Rq_load Rq_store loL_drew okL_drew there_sc World.there_drew

attribute [local irreducible] Rq.mayRq Rq.nameL Rq.partsF Rq.runG Rq.runX eqRq Rq.encsP

set_option maxRecDepth 8000 in
set_option maxHeartbeats 2000000 in
theorem rqBytes_no (x : Rqt) (hw : x.wf) (p q : Option Addr) (n cap m cap2 : Nat) (w : World) (hc : LS Cpn.cells 6 w (.slice p n cap) x.cs) (ht : LS Txx.cells 2 w (.slice q m cap2) x.xs) (h1 : x.cs.length ≤ 1073741824) (h2 : x.xs.length ≤ 1073741824) (hst : ∀ f ∈ Rq.partsF x.k, ∀ (w0 : World) (g gq : Nat) (gd : Bool) (y : Rqt) (W : World), WSt w0 g gq gd y W → Calls Tryz.prog f #[.pointer (some ⟨g, 0, none⟩)] W fun e w' => e = .returned (.tuple #[]) ∧ WSt w0 g gq (gd && Rq.partB f y) (Rq.partC f y) w' ∧ Rq.KF W w') (hm : Rq.mayRq x = false) : Calls Tryz.prog 32 #[.agg #[.string x.key, .int .i64 x.k, .int .i64 x.d, .int .u64 x.tk, .int .i64 x.c, .int .i64 x.st, .string x.loc, .slice p n cap, .slice q m cap2, .int .i64 x.am, .int .i64 x.fr, .int .i64 x.tt]] w fun e w' => e = .returned (.tuple #[.slice none 0 0, .int .i64 2]) ∧ Below w.heap.size w w' := by
  have HMY := Lib.hid (fun W hc ht => rqMay_any x hw p q n cap m cap2 W hc ht h1 h2 hst)
  rw [hm] at HMY
  have HLC := Lib.hid hc; have HLT := Lib.hid ht; have HL1 := Lib.hid h1; have HL2 := Lib.hid h2; have HWF := Lib.hid hw
  clear hc ht h1 h2 hw hst hm
  have HRA := Lib.hid (new_rowW w (.cells #[.string x.key, .int .i64 x.k, .int .i64 x.d, .int .u64 x.tk, .int .i64 x.c, .int .i64 x.st, .string x.loc, .slice p n cap, .slice q m cap2, .int .i64 x.am, .int .i64 x.fr, .int .i64 x.tt] 57 (0, 0)) _ rfl)
  have HB := Lib.hid ((Below.refl w.heap.size w).alloc (Nat.le_refl _) (.cells #[.string x.key, .int .i64 x.k, .int .i64 x.d, .int .u64 x.tk, .int .i64 x.c, .int .i64 x.st, .string x.loc, .slice p n cap, .slice q m cap2, .int .i64 x.am, .int .i64 x.fr, .int .i64 x.tt] 57 (0, 0)))
  obtain ⟨f1, f2⟩ := row_loT 12 HRA.out rfl rfl
  go_enter Tryz.func32, Tryz.ntmps32
  go_wp2_with fail
  clear f1 f2
  refine (HMY.out _ (HLC.out.below HB.out) (HLT.out.below HB.out)).mono ?_
  rintro e w1 ⟨rfl, hb⟩
  have HB1 := Lib.hid (HB.out.trans (hb.mono HB.out.size))
  clear hb
  go_wp2
  go_ret2
  exact ⟨rfl, HB1.out⟩

set_option maxRecDepth 8000 in
set_option maxHeartbeats 2000000 in
theorem rqBytes_yes (x : Rqt) (hw : x.wf) (p q : Option Addr) (n cap m cap2 : Nat) (w : World) (hc : LS Cpn.cells 6 w (.slice p n cap) x.cs) (ht : LS Txx.cells 2 w (.slice q m cap2) x.xs) (h1 : x.cs.length ≤ 1073741824) (h2 : x.xs.length ≤ 1073741824) (hst : ∀ f ∈ Rq.partsF x.k, ∀ (w0 : World) (g gq : Nat) (gd : Bool) (y : Rqt) (W : World), WSt w0 g gq gd y W → Calls Tryz.prog f #[.pointer (some ⟨g, 0, none⟩)] W fun e w' => e = .returned (.tuple #[]) ∧ WSt w0 g gq (gd && Rq.partB f y) (Rq.partC f y) w' ∧ Rq.KF W w') (hsw : ∀ f ∈ Rq.partsF x.k, Rq.partB f x = true ∧ ∀ (w0 : World) (g gq bw k : Nat) (l : List UInt8) (W : World), WPt w0 g gq bw k l x W → Rq.partB f x = true → k + 400 ≤ 536870912 → Calls Tryz.prog f #[.pointer (some ⟨g, 0, none⟩)] W fun e w' => e = .returned (.tuple #[]) ∧ WPt w0 g gq bw (k + 400) (l ++ Rq.encP f x) x w' ∧ Rq.KF W w') (hm : Rq.mayRq x = true) (hk1 : 1 ≤ x.k ∧ x.k ≤ 10) : Calls Tryz.prog 32 #[.agg #[.string x.key, .int .i64 x.k, .int .i64 x.d, .int .u64 x.tk, .int .i64 x.c, .int .i64 x.st, .string x.loc, .slice p n cap, .slice q m cap2, .int .i64 x.am, .int .i64 x.fr, .int .i64 x.tt]] w fun e w' => ∃ v, e = .returned (.tuple #[v, .int .i64 0]) ∧ w'.ownsRow w.heap.size 5 1 v (Rq.encRq x).length (bytesV (Rq.encRq x)) ∧ Below w.heap.size w w' := by
  obtain ⟨K, hK⟩ := Int.eq_ofNat_of_zero_le (show 0 ≤ x.k by omega)
  have HMY := Lib.hid (fun W hc ht => rqMay_any x hw p q n cap m cap2 W hc ht h1 h2 hst)
  rw [hm] at HMY
  have HLC := Lib.hid hc; have HLT := Lib.hid ht; have HL1 := Lib.hid h1; have HL2 := Lib.hid h2; have HWF := Lib.hid hw
  clear hc ht h1 h2 hw hst hm
  have HRA := Lib.hid (new_rowW w (.cells #[.string x.key, .int .i64 x.k, .int .i64 x.d, .int .u64 x.tk, .int .i64 x.c, .int .i64 x.st, .string x.loc, .slice p n cap, .slice q m cap2, .int .i64 x.am, .int .i64 x.fr, .int .i64 x.tt] 57 (0, 0)) _ rfl)
  have HB := Lib.hid ((Below.refl w.heap.size w).alloc (Nat.le_refl _) (.cells #[.string x.key, .int .i64 x.k, .int .i64 x.d, .int .u64 x.tk, .int .i64 x.c, .int .i64 x.st, .string x.loc, .slice p n cap, .slice q m cap2, .int .i64 x.am, .int .i64 x.fr, .int .i64 x.tt] 57 (0, 0)))
  obtain ⟨f1, f2⟩ := row_loT 12 HRA.out rfl rfl
  have hwk : IntKind.u64.wrap x.k = (K : Int) := by rw [IntKind.wrap_u64]; omega
  have HSW := Lib.hid hsw; have HKK := Lib.hid hK; have HK1 : Hid (K < 256) := Lib.hid (by omega)
  clear hsw hK hk1
  go_enter Tryz.func32, Tryz.ntmps32
  go_wp2_with fail
  clear f1 f2
  refine (HMY.out _ (HLC.out.below HB.out) (HLT.out.below HB.out)).mono ?_
  rintro e w1 ⟨rfl, hb⟩
  replace HRA := Lib.hid ((hb.block _ (block_lt HRA.out)).trans HRA.out)
  replace HB := Lib.hid (HB.out.trans (hb.mono HB.out.size))
  clear hb HMY
  have HB1 := HB
  replace HB := Lib.hid (Below.refl w1.heap.size w1)
  have HLC1 := Lib.hid (HLC.out.below HB1.out); have HLT1 := Lib.hid (HLT.out.below HB1.out)
  clear HLC HLT
  obtain ⟨f1, f2⟩ := row_loT 12 HRA.out rfl rfl
  go_wp2_with fail
  clear f1 f2
  refine (rqClone_any x p q n cap m cap2 _ HLC1.out HLT1.out HL1.out HL2.out).mono ?_
  rintro e w2 ⟨cv, tv, rfl, ho1, ho2, hb⟩
  have HO1 := Lib.hid ho1; have HO2 := Lib.hid ho2
  replace HB := Lib.hid (HB.out.trans hb)
  clear hb ho1 ho2
  obtain ⟨q1, z1, hv1⟩ := rec_formT HO1.out
  obtain ⟨q2, z2, hv2⟩ := rec_formT HO2.out
  subst hv1 hv2
  have tc := there_newT (w := w2) (zs := [.string ⟨#[]⟩, .int .i64 0, .int .i64 0, .int .u64 0, .int .i64 0, .int .i64 0, .string ⟨#[]⟩, .slice none 0 0, .slice none 0 0, .int .i64 0, .int .i64 0, .int .i64 0]) (e := 57) (n := 12) rfl
  have c6n : ([.string x.key, .int .i64 x.k, .int .i64 x.d, .int .u64 x.tk, .int .i64 x.c, .int .i64 x.st, .string x.loc, .slice q1 x.cs.length z1, .slice q2 x.xs.length z2, .int .i64 x.am, .int .i64 x.fr, .int .i64 x.tt] : List Value).length = 12 := rfl
  have c6c : ([.string x.key, .int .i64 x.k, .int .i64 x.d, .int .u64 x.tk, .int .i64 x.c, .int .i64 x.st, .string x.loc, .slice q1 x.cs.length z1, .slice q2 x.xs.length z2, .int .i64 x.am, .int .i64 x.fr, .int .i64 x.tt] : List Value).all (·.oneCell') = true := rfl
  go_upto_region 4 with fail
  have HP := Lib.hid (putRec (W := w2) (e := 57) (zs := [.string ⟨#[]⟩, .int .i64 0, .int .i64 0, .int .u64 0, .int .i64 0, .int .i64 0, .string ⟨#[]⟩, .slice none 0 0, .slice none 0 0, .int .i64 0, .int .i64 0, .int .i64 0]) (cs := [.string x.key, .int .i64 x.k, .int .i64 x.d, .int .u64 x.tk, .int .i64 x.c, .int .i64 x.st, .string x.loc, .slice q1 x.cs.length z1, .slice q2 x.xs.length z2, .int .i64 x.am, .int .i64 x.fr, .int .i64 x.tt]) rfl)
  replace HO1 := Lib.hid (recs_below HO1.out HP.out.2)
  replace HO2 := Lib.hid (recs_below HO2.out HP.out.2)
  replace HB := Lib.hid (HB.out.trans (HP.out.2.mono HB.out.size))
  have HRQ := Lib.hid HP.out.1
  clear HP tc c6n c6c
  generalize (w2.alloc (.cells #[.string ⟨#[]⟩, .int .i64 0, .int .i64 0, .int .u64 0, .int .i64 0, .int .i64 0, .string ⟨#[]⟩, .slice none 0 0, .slice none 0 0, .int .i64 0, .int .i64 0, .int .i64 0] 57 (0, 0))).setCells w2.heap.size 0 [.string x.key, .int .i64 x.k, .int .i64 x.d, .int .u64 x.tk, .int .i64 x.c, .int .i64 x.st, .string x.loc, .slice q1 x.cs.length z1, .slice q2 x.xs.length z2, .int .i64 x.am, .int .i64 x.fr, .int .i64 x.tt] = w3 at *
  generalize w2.heap.size = gq at *
  have HRA3 := Lib.hid ((HB.out.block _ (block_lt HRA.out)).trans HRA.out)
  have kc := fun j => cell_of_row w3 w.heap.size j _ _ _ HRA3.out
  have hlt3 : w.heap.size < w3.heap.size := block_lt HRA3.out
  go_wp2_with fail
  refine (wnumber_okE (new_writer w3) (by omega) K 1 (by decide) (by show K < 256; exact HK1.out)).mono ?_
  rintro e w4 ⟨rfl, hstp⟩
  clear kc hlt3 hwk
  have hba := (Below.refl w3.heap.size w3).alloc (Nat.le_refl _) (.cells #[.slice none 0 0, .int .i64 0, .bool false] 138)
  have HW4 : Hid (IsW w4 w1.heap.size w3.heap.size (0 + 9) (some ([] ++ Wire.be K 1))) := Lib.hid (isW_lower hstp.1 HB.out.size)
  have hb4 : Below w3.heap.size w3 w4 := hba.trans hstp.2.1
  replace HO1 := Lib.hid (recs_below HO1.out hb4)
  replace HO2 := Lib.hid (recs_below HO2.out hb4)
  replace HRQ := Lib.hid ((hb4.block _ (block_lt HRQ.out)).trans HRQ.out)
  replace HB := Lib.hid (HB.out.trans (hb4.mono HB.out.size))
  clear hba hstp hb4 HRA3
  generalize w3.heap.size = bw at *
  go_upto_region 5 with fail
  have hba := (Below.refl w4.heap.size w4).alloc (Nat.le_refl _) (.cells #[.pointer (some ⟨bw, 0, none⟩), .pointer none, .bool false, .pointer (some ⟨gq, 0, none⟩)] 125 (0, 0))
  have HRG := Lib.hid (new_rowW w4 (.cells #[.pointer (some ⟨bw, 0, none⟩), .pointer none, .bool false, .pointer (some ⟨gq, 0, none⟩)] 125 (0, 0)) _ rfl)
  replace HO1 := Lib.hid (recs_below HO1.out hba)
  replace HO2 := Lib.hid (recs_below HO2.out hba)
  replace HRQ := Lib.hid ((hba.block _ (block_lt HRQ.out)).trans HRQ.out)
  replace HW4 := Lib.hid (HW4.out.below hba)
  replace HB := Lib.hid (HB.out.trans (hba.mono HB.out.size))
  clear hba
  generalize w4.alloc (.cells #[.pointer (some ⟨bw, 0, none⟩), .pointer none, .bool false, .pointer (some ⟨gq, 0, none⟩)] 125 (0, 0)) = w5 at *
  generalize w4.heap.size = g at *
  have HRUN := Lib.hid (wputs_any (w0 := w1) (g := g) (gq := gq) (bw := bw) (k := 0 + 9) (l := [] ++ Wire.be K 1) (x := x) (W := w5) ⟨⟨_, _, HRG.out, HRQ.out, HO1.out, HO2.out⟩, HW4.out, HB.out, HWF.out⟩ (by omega) HSW.out)
  clear HO1 HO2 HRG HRQ HW4 HB HSW
  have HLN := Lib.hid (Rq.parts_len x.k)
  obtain ⟨np, hnp⟩ : ∃ z, (Rq.partsF x.k).length = z := ⟨_, rfl⟩
  rw [hnp] at HRUN HLN
  clear hnp
  have HEN : Hid (([] ++ Wire.be K 1) ++ Rq.encsP (Rq.partsF x.k) x = Rq.encRq x) := Lib.hid (by unfold Rq.encRq; rw [HKK.out, List.nil_append]; rfl)
  rw [HEN.out] at HRUN
  generalize hL : Rq.encRq x = L at *
  have HL := Lib.hid hL
  clear hL HEN
  go_wp2_with fail
  refine HRUN.out.mono ?_
  rintro e w6 ⟨rfl, hs⟩
  obtain ⟨cv, tv, k1, k2, k3, k4⟩ := hs.ex
  have HB6 := Lib.hid (HB1.out.trans (hs.b.mono HB1.out.size))
  have HW6 := Lib.hid hs.wr
  have kc := fun j => cell_of_row w6 g j _ _ _ k1
  clear hs k1 k2 k3 k4 HRUN
  go_wp2_with fail
  refine (wend_some _ _ _ _ (by have := HLN.out; omega) _ HW6.out).mono ?_
  rintro e w7 ⟨u, rfl, hown, hb5⟩
  have HO := Lib.hid (own_monoT hown HB6.out.size)
  have HB7 := Lib.hid (HB6.out.trans (hb5.mono HB6.out.size))
  clear hown hb5 kc
  obtain ⟨q5, c5, hv5⟩ := rec_formT HO.out
  subst hv5
  generalize hn : L.length = nl at *
  have HNL := Lib.hid hn
  clear hn
  go_wp2
  go_ret2
  refine ⟨_, rfl, ?_, HB7.out⟩
  rw [HL.out, HNL.out]
  exact HO.out
end Go.Proofs.YtbmphlpmipkpcaaGreat
