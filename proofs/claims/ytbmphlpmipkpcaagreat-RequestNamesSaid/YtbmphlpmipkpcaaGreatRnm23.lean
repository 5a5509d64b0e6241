/- Contract: a ticket's bytes (ticket.Bytes). -/
import Derived.Test.YtbmphlpmipkpcaaGreatRnm22

set_option linter.unusedVariables false
set_option linter.unusedSimpArgs false
namespace Go.Proofs.YtbmphlpmipkpcaaGreat
open Go.RowKit

namespace Tkt
theorem hist_fits {u : Int} {n : Nat} {iss : Int} (hs : List Evt) {s : Told} (h : toldE u n iss hs = some s) : (∀ z ∈ s.now, 1 ≤ z ∧ z ≤ 9) ∧ s.now.length = n ∧ iss ≤ s.at_ ∧ ∀ x ∈ hs, iss ≤ x.dy ∧ x.dy ≤ 1000000 ∧ 1 ≤ x.co ∧ x.co ≤ n ∧ 0 ≤ x.fr ∧ x.fr ≤ 9 ∧ 1 ≤ x.to ∧ x.to ≤ 9 := by
  have key : ∀ (l : List Evt) (s : Told), l.foldl (stepE u) (some (told0 n iss)) = some s → (∀ z ∈ s.now, 1 ≤ z ∧ z ≤ 9) ∧ s.now.length = n ∧ iss ≤ s.at_ ∧ ∀ x ∈ l, iss ≤ x.dy ∧ x.dy ≤ 1000000 ∧ 1 ≤ x.co ∧ x.co ≤ n ∧ 0 ≤ x.fr ∧ x.fr ≤ 9 ∧ 1 ≤ x.to ∧ x.to ≤ 9 := by
    intro l
    refine Wire.snocRec (M := fun l => ∀ (s : Told), l.foldl (stepE u) (some (told0 n iss)) = some s → (∀ z ∈ s.now, 1 ≤ z ∧ z ≤ 9) ∧ s.now.length = n ∧ iss ≤ s.at_ ∧ ∀ x ∈ l, iss ≤ x.dy ∧ x.dy ≤ 1000000 ∧ 1 ≤ x.co ∧ x.co ≤ n ∧ 0 ≤ x.fr ∧ x.fr ≤ 9 ∧ 1 ≤ x.to ∧ x.to ≤ 9) ?_ ?_ l
    · intro s h
      injection h with h
      subst h
      refine ⟨fun z hz => ?_, by simp [told0], Int.le_refl _, fun x hx => by cases hx⟩
      have := List.eq_of_mem_replicate hz
      omega
    · intro l x ih s h
      rw [List.foldl_append] at h
      obtain ⟨s0, h0, hk, rfl⟩ := stepE_len h
      obtain ⟨i1, i2, i3, i4⟩ := ih s0 h0
      unfold evOk leadsB stB at hk
      simp only [Bool.and_eq_true, decide_eq_true_eq] at hk
      obtain ⟨⟨⟨⟨⟨k1, k2⟩, k3⟩, k4⟩, k5⟩, ⟨k6, k7⟩, k8⟩ := hk
      have hlt : x.co.toNat - 1 < s0.now.length := by omega
      have hfr : 1 ≤ x.fr ∧ x.fr ≤ 9 := by
        rw [k5, List.getD_eq_getElem?_getD, List.getElem?_eq_getElem hlt]
        exact i1 _ (List.getElem_mem hlt)
      refine ⟨fun z hz => ?_, by simp [evDo, i2], by simp only [evDo]; omega, fun y hy => ?_⟩
      · rcases List.mem_or_eq_of_mem_set hz with hz | rfl
        · exact i1 z hz
        · exact ⟨k6, k7⟩
      · rcases List.mem_append.1 hy with hy | hy
        · exact i4 y hy
        · obtain rfl := List.mem_singleton.1 hy
          refine ⟨by omega, k4, k1, by omega, by omega, by omega, k6, k7⟩
  exact key hs s h
theorem tax_fits : ∀ {l : List Txx} {m : Int}, 0 ≤ m → taxB m l = true → ∀ c ∈ l, 0 ≤ c.cd ∧ c.cd ≤ 99 ∧ 0 ≤ c.am ∧ c.am ≤ 1000000000000 := by
  intro l
  induction l with
  | nil => intro m _ _ c hc; cases hc
  | cons x l ih =>
    intro m hm h c hc
    unfold taxB someB at h
    simp only [Bool.and_eq_true, decide_eq_true_eq] at h
    obtain ⟨⟨⟨h1, h2⟩, h3, h4⟩, h5⟩ := h
    rcases List.mem_cons.1 hc with rfl | hc
    · omega
    · exact ih (by omega) h5 c hc
theorem fits_of {t : Tk} (h : mayB t = true) (hw : t.wf) : Fits t := by
  unfold mayB at h
  simp only [Bool.and_eq_true, List.all_eq_true] at h
  obtain ⟨⟨⟨⟨hh, hl⟩, hcs⟩, hts⟩, hhs⟩ := h
  unfold headB dayB at hh
  simp only [Bool.and_eq_true, decide_eq_true_eq] at hh
  obtain ⟨⟨⟨⟨⟨⟨⟨⟨-, hloc⟩, hi1, hi2⟩, -⟩, -⟩, hv1⟩, hv2⟩, hp1⟩, hp2⟩ := hh
  unfold lensB at hl
  simp only [Bool.and_eq_true, decide_eq_true_eq] at hl
  have hl6 : t.loc.size ≤ 1000 := by
    unfold Num.loc at hloc
    simp only [Bool.and_eq_true, decide_eq_true_eq] at hloc
    have h6 := hloc.2
    have : t.loc.data.toList.length = t.loc.size := by show t.loc.data.toList.length = t.loc.data.size; simp
    omega
  refine ⟨⟨hw.num.1, by have := hw.num.2; omega⟩, hl6, ⟨hi1, by omega⟩, ⟨hw.prev.1, by have := hw.prev.2; omega⟩, ⟨hw.org.1, by have := hw.org.2; omega⟩, ⟨hw.fst.1, by have := hw.fst.2; omega⟩, ⟨hv1, by omega⟩, ⟨hp1, by omega⟩, by omega, by omega, by omega, ?_, ?_, ?_⟩
  · intro c hc
    have hcb := hcs c hc
    unfold cpnB dayB someB stB at hcb
    simp only [Bool.and_eq_true, decide_eq_true_eq] at hcb
    obtain ⟨⟨⟨⟨⟨⟨k1, k2⟩, k3, k4⟩, k5, k6⟩, k7, k8⟩, k9⟩, k10⟩ := hcb
    have hho : 0 ≤ c.ho ∧ c.ho ≤ 1000 := by
      split at k9
      · unfold holdB at k9; simp at k9; omega
      · simp at k9; omega
    have hnx := (hw.cs c hc).2.2.2.2.2
    exact ⟨⟨by omega, by omega⟩, ⟨k3, by omega⟩, ⟨k5, by omega⟩, ⟨by omega, by omega⟩, ⟨hho.1, by omega⟩, ⟨hnx.1, by have := hnx.2; omega⟩⟩
  · intro c hc
    have := tax_fits (by decide) hts c hc
    exact ⟨⟨this.1, by omega⟩, ⟨this.2.2.1, by omega⟩⟩
  · intro c hc
    unfold histB at hhs
    cases ht : toldE 0 t.cs.length t.iss t.hs with
    | none => rw [ht] at hhs; cases hhs
    | some s =>
      have := (hist_fits t.hs ht).2.2.2 c hc
      exact ⟨⟨by omega, by omega⟩, ⟨by omega, by omega⟩, ⟨by omega, by omega⟩, ⟨by omega, by omega⟩⟩
end Tkt

attribute [local go_sem ↓] Tk_execLoad Tk_execStore

attribute [local go_sem] Tk_load Tk_store loL_drew okL_drew there_sc World.there_drew

attribute [local irreducible] Tkt.encT

set_option maxRecDepth 8000 in
set_option maxHeartbeats 4000000 in
theorem tbytes_any (t : Tk) (c x h : Sl) (w : World) (ts : TS w t c x h) : Calls Tryz.prog 87 #[.agg #[.int .u64 t.num, .string t.loc, .int .i64 t.iss, .slice c.p c.n c.c, .slice x.p x.n x.c, .int .u64 t.prev, .int .u64 t.org, .int .u64 t.fst, .int .i64 t.vou, .int .i64 t.posts, .slice h.p h.n h.c]] w fun e w' =>
    ∃ v, e = .returned (.tuple #[v, .int .i64 (if Tkt.mayB t = true then 0 else 2)]) ∧ w'.ownsRow w.heap.size 5 1 v (if Tkt.mayB t = true then Tkt.encT t else []).length (bytesV (if Tkt.mayB t = true then Tkt.encT t else [])) ∧ Below w.heap.size w w' := by
  have HTS := Lib.hid ts
  have HM := Lib.hid (fun W hW => tmay_any t c x h W (ts.below hW))
  have HCL := Lib.hid (fun W hW => tclone_any t c x h W (ts.below hW))
  have HFI := Lib.hid (fun hm => Tkt.fits_of (t := t) hm ts.wf)
  have HB := Lib.hid ((Below.refl w.heap.size w).alloc (Nat.le_refl _) (.cells #[.int .u64 t.num, .string t.loc, .int .i64 t.iss, .slice c.p c.n c.c, .slice x.p x.n x.c, .int .u64 t.prev, .int .u64 t.org, .int .u64 t.fst, .int .i64 t.vou, .int .i64 t.posts, .slice h.p h.n h.c] 27 (0, 0)))
  have HR := Lib.hid (new_rowW w (.cells #[.int .u64 t.num, .string t.loc, .int .i64 t.iss, .slice c.p c.n c.c, .slice x.p x.n x.c, .int .u64 t.prev, .int .u64 t.org, .int .u64 t.fst, .int .i64 t.vou, .int .i64 t.posts, .slice h.p h.n h.c] 27 (0, 0)) _ rfl)
  obtain ⟨f1, f2⟩ := row_loT 11 HR.out rfl rfl
  obtain ⟨mb, hmb⟩ : ∃ m, Tkt.mayB t = m := ⟨_, rfl⟩
  have HMB := Lib.hid hmb
  rw [hmb] at HM HFI ⊢
  clear ts hmb
  cases mb
  · go_enter Tryz.func87, Tryz.ntmps87
    go_wp2_with (go_at_call 94; refine (HM.out _ HB.out).mono ?_; rintro e wn ⟨rfl, hbn⟩; have HB := Lib.hid (HB.out.trans (hbn.mono HB.out.size)); have HR := Lib.hid ((hbn.block _ (block_lt HR.out)).trans HR.out); obtain ⟨f1, f2⟩ := row_loT 11 HR.out rfl rfl; clear hbn)
    go_ret2
    exact ⟨.slice none 0 0, rfl, World.ownsRow_nil _ _ _ _, HB.out⟩
  · have hft := HFI.out rfl
    have HFT := Lib.hid hft
    have HLE : Hid (t.cs.length ≤ 20 ∧ t.ts.length ≤ 20 ∧ t.hs.length ≤ 100) := Lib.hid ⟨hft.nc, hft.nt, hft.nh⟩
    clear hft
    go_enter Tryz.func87, Tryz.ntmps87
    go_upto_region 3 with (go_at_call 94; refine (HM.out _ HB.out).mono ?_; rintro e wn ⟨rfl, hbn⟩; have HB := Lib.hid (HB.out.trans (hbn.mono HB.out.size)); have HR := Lib.hid ((hbn.block _ (block_lt HR.out)).trans HR.out); obtain ⟨f1, f2⟩ := row_loT 11 HR.out rfl rfl; clear hbn)
    go_wp2_with fail
    refine (HCL.out _ HB.out (by have := HLE.out; omega) (by have := HLE.out; omega) (by have := HLE.out; omega)).mono ?_
    rintro e wm ⟨⟨q1, n1, z1⟩, ⟨q2, n2, z2⟩, ⟨q3, n3, z3⟩, rfl, hw1, hw2, hw3, hbm⟩
    dsimp only at hw1 hw2 hw3
    obtain ⟨qq1, zz1, hv1⟩ := rec_formT hw1
    obtain ⟨qq2, zz2, hv2⟩ := rec_formT hw2
    obtain ⟨qq3, zz3, hv3⟩ := rec_formT hw3
    injection hv1 with e1 e2 e3; injection hv2 with e4 e5 e6; injection hv3 with e7 e8 e9
    subst e1 e2 e3 e4 e5 e6 e7 e8 e9
    have O1 := Lib.hid hw1; have O2 := Lib.hid hw2; have O3 := Lib.hid hw3
    have HBB := HB
    have HB := Lib.hid (HB.out.trans (hbm.mono HB.out.size)); have HR := Lib.hid ((hbm.block _ (block_lt HR.out)).trans HR.out)
    have th2 := there_rowT (n := 11) HR.out rfl; have h1n2 : ([.int .u64 t.num, .string t.loc, .int .i64 t.iss, .slice q1 t.cs.length z1, .slice q2 t.ts.length z2, .int .u64 t.prev, .int .u64 t.org, .int .u64 t.fst, .int .i64 t.vou, .int .i64 t.posts, .slice q3 t.hs.length z3] : List Value).length = 11 := rfl; have h1c2 : ([.int .u64 t.num, .string t.loc, .int .i64 t.iss, .slice q1 t.cs.length z1, .slice q2 t.ts.length z2, .int .u64 t.prev, .int .u64 t.org, .int .u64 t.fst, .int .i64 t.vou, .int .i64 t.posts, .slice q3 t.hs.length z3] : List Value).all (·.oneCell') = true := rfl
    clear hw1 hw2 hw3 hbm f1 f2
    go_upto_region 4 with fail
    have HR3 : Hid ((wm.setCells w.heap.size 0 [.int .u64 t.num, .string t.loc, .int .i64 t.iss, .slice q1 t.cs.length z1, .slice q2 t.ts.length z2, .int .u64 t.prev, .int .u64 t.org, .int .u64 t.fst, .int .i64 t.vou, .int .i64 t.posts, .slice q3 t.hs.length z3]).heap[w.heap.size]? = some (.cells #[.int .u64 t.num, .string t.loc, .int .i64 t.iss, .slice q1 t.cs.length z1, .slice q2 t.ts.length z2, .int .u64 t.prev, .int .u64 t.org, .int .u64 t.fst, .int .i64 t.vou, .int .i64 t.posts, .slice q3 t.hs.length z3] 27 (0, 0))) := Lib.hid (setCells_rowT HR.out rfl)
    have HON3 : Hid (Only w.heap.size wm (wm.setCells w.heap.size 0 [.int .u64 t.num, .string t.loc, .int .i64 t.iss, .slice q1 t.cs.length z1, .slice q2 t.ts.length z2, .int .u64 t.prev, .int .u64 t.org, .int .u64 t.fst, .int .i64 t.vou, .int .i64 t.posts, .slice q3 t.hs.length z3])) := Lib.hid ((Only.refl w.heap.size wm).setCells 0 _)
    clear th2 h1n2 h1c2
    generalize wm.setCells w.heap.size 0 [.int .u64 t.num, .string t.loc, .int .i64 t.iss, .slice q1 t.cs.length z1, .slice q2 t.ts.length z2, .int .u64 t.prev, .int .u64 t.org, .int .u64 t.fst, .int .i64 t.vou, .int .i64 t.posts, .slice q3 t.hs.length z3] = w4 at *
    have HO1 := Lib.hid (recs_keep O1.out (fun b hb hlt => HON3.out.block b hlt (own_neT O1.out HR.out (by decide) b hb)))
    have HO2 := Lib.hid (recs_keep O2.out (fun b hb hlt => HON3.out.block b hlt (own_neT O2.out HR.out (by decide) b hb)))
    have HO3 := Lib.hid (recs_keep O3.out (fun b hb hlt => HON3.out.block b hlt (own_neT O3.out HR.out (by decide) b hb)))
    have HB4 := Lib.hid (Only.below HB.out (Nat.le_refl _) HB.out.size HON3.out)
    clear HB HR O1 O2 O3 HON3
    have hb5 := ((Below.refl w4.heap.size w4).alloc (Nat.le_refl _) (.cells #[.slice none 0 0, .int .i64 0, .bool false] 138 (0, 0))).alloc (by simp) (.cells #[.pointer (some ⟨w4.heap.size, 0, none⟩), .pointer none] 167 (0, 0))
    have HB5 := Lib.hid hb5
    have HW5 : Hid (IsW ((w4.alloc (.cells #[.slice none 0 0, .int .i64 0, .bool false] 138 (0, 0))).alloc (.cells #[.pointer (some ⟨w4.heap.size, 0, none⟩), .pointer none] 167 (0, 0))) w4.heap.size w4.heap.size 0 (some [])) := Lib.hid ((new_writer w4).below ((Below.refl _ _).alloc (Nat.le_refl _) _))
    have HX5 : Hid (((w4.alloc (.cells #[.slice none 0 0, .int .i64 0, .bool false] 138 (0, 0))).alloc (.cells #[.pointer (some ⟨w4.heap.size, 0, none⟩), .pointer none] 167 (0, 0))).heap[w4.heap.size + 1]? = some (.cells #[.pointer (some ⟨w4.heap.size, 0, none⟩), .pointer none] 167 (0, 0))) := Lib.hid (new_rowW _ _ _ (by simp))
    have HR5 : Hid (((w4.alloc (.cells #[.slice none 0 0, .int .i64 0, .bool false] 138 (0, 0))).alloc (.cells #[.pointer (some ⟨w4.heap.size, 0, none⟩), .pointer none] 167 (0, 0))).heap[w.heap.size]? = some (.cells #[.int .u64 t.num, .string t.loc, .int .i64 t.iss, .slice q1 t.cs.length z1, .slice q2 t.ts.length z2, .int .u64 t.prev, .int .u64 t.org, .int .u64 t.fst, .int .i64 t.vou, .int .i64 t.posts, .slice q3 t.hs.length z3] 27 (0, 0))) := Lib.hid (row_after (row_after HR3.out))
    have HP1 := Lib.hid (recs_below HO1.out hb5); have HP2 := Lib.hid (recs_below HO2.out hb5); have HP3 := Lib.hid (recs_below HO3.out hb5)
    clear hb5
    go_upto_region 5 with fail
    generalize ((w4.alloc (.cells #[.slice none 0 0, .int .i64 0, .bool false] 138 (0, 0))).alloc (.cells #[.pointer (some ⟨w4.heap.size, 0, none⟩), .pointer none] 167 (0, 0))) = w5 at *
    have hcw := fun j => cell_of_row w5 (w4.heap.size + 1) j _ _ _ HX5.out
    go_wp2_with fail
    refine (wticket_any _ w4.heap.size w4.heap.size 0 [] t HFT.out ⟨q1, t.cs.length, z1⟩ ⟨q2, t.ts.length, z2⟩ ⟨q3, t.hs.length, z3⟩ (by decide) _ w.heap.size HW5.out HR5.out HP1.out HP2.out HP3.out).mono ?_
    rintro e w6 ⟨rfl, hst⟩
    have HX6 := Lib.hid (hst.2.2.row HX5.out (by decide))
    have HST := Lib.hid hst
    clear hst hcw
    have hcw := fun j => cell_of_row w6 (w4.heap.size + 1) j _ _ _ HX6.out
    go_wp2_with fail
    refine (wend_some w4.heap.size w4.heap.size _ _ (by decide) _ HST.out.1).mono ?_
    rintro e w7 ⟨v, rfl, hown, hb7⟩
    rw [List.nil_append] at hown
    have HF := Lib.hid hown; have HB7 := Lib.hid hb7
    clear hown hb7 hcw
    go_wp2
    go_ret2
    have hB6 : Below w.heap.size w w6 := (HB4.out.trans (HB5.out.mono HB4.out.size)).trans (HST.out.2.1.mono HB4.out.size)
    refine ⟨v, rfl, ?_, hB6.trans (HB7.out.mono hB6.size)⟩

    exact own_more HF.out hB6.size
end Go.Proofs.YtbmphlpmipkpcaaGreat
