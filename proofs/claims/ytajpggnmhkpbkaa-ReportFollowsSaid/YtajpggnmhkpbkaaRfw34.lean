/- Contract: the reference's Sort of postings. -/
import Derived.Test.YtajpggnmhkpbkaaRfw28
import Derived.Test.YtajpggnmhkpbkaaRfw30
import Derived.Deep.QuietTactic
import Derived.Deep.RegionLaw
import Derived.BigQuiet

set_option linter.unusedVariables false
set_option linter.unusedSimpArgs false
namespace Go.Proofs.Ytajpggnmhkpbkaa
open Go.RowKit
attribute [local go_sem ↓] post_execLoad post_execStore

attribute [local go_sem] post_load post_store loL_drew okL_drew there_sc World.there_drew

theorem ls_two {w : World} {b oo g c k q m n cap : Nat} {l o : List Pst} {e d : Pst} (hs : LS Pst.cells 10 w (.slice (some ⟨b, oo, none⟩) n cap) l) (ho : LS Pst.cells 10 w (.slice (some ⟨g, 0, none⟩) m c) o) (he : l[k]? = some e) (hd : o[q]? = some d) (W : World) (hb : Below w.heap.size w W) :
    loL 10 W b (oo + k * 10) = e.cells ∧ okL 10 W b (oo + k * 10) ∧ loL 10 W g (q * 10) = d.cells ∧ okL 10 W g (q * 10) := by
  obtain ⟨b1, o1, e1, _, h1⟩ := (hs.below hb).at he
  obtain ⟨b2, o2, e2, _, h2⟩ := (ho.below hb).at hd
  injection e1 with e1; injection e1 with e1 e1'
  injection e2 with e2; injection e2 with e2 e2'
  subst e1; subst e1'; subst e2; subst e2'
  obtain ⟨f1, f2⟩ := loL_of h1 (Pst.cells_length e)
  obtain ⟨f3, f4⟩ := loL_of h2 (Pst.cells_length d)
  rw [Nat.zero_add] at f3 f4
  exact ⟨f1, f2, f3, f4⟩

theorem ls_empty {w : World} {p : Option Addr} {m c : Nat} (hm : m = 0) (hc : c ≤ maxLen) : LS Pst.cells 10 w (.slice p m c) [] := ⟨p, c, by rw [hm]; rfl, Nat.zero_le _, hc, fun h => absurd rfl h⟩

set_option maxRecDepth 4000 in
set_option maxHeartbeats 2000000 in
theorem rSort_any (l : List Pst) (hwf : WF l) (p : Option Addr) (n cap : Nat) (hl : n ≤ 1000000) (w : World) (hs : LS Pst.cells 10 w (.slice p n cap) l) :
    Calls Try.prog 86 #[.slice p n cap] w fun e w' => ∃ v' s', e = .returned v' ∧ Srt.Mix keyP l s' ∧ Srt.Up keyP s' ∧ w'.ownsRow w.heap.size 68 10 v' s'.length (encL Pst.cells s') ∧ Below w.heap.size w w' := by
  have HL := Lib.hid hs.length
  have HS := Lib.hid hs; have HWF := Lib.hid hwf
  clear hs hwf
  go_enter Try.func86, Try.ntmps86
  go_wp2
  go_loopw [4, 3] (fun i v wr => ∃ (k : Nat) (o : List Pst), k ≤ n ∧ i = .int .i64 k ∧ wr.ownsRow w.heap.size 68 10 v o.length (encL Pst.cells o) ∧ Srt.Mix keyP (l.take k) o ∧ Srt.Up keyP o ∧ Below w.heap.size w wr) (fun i _ _ => n - (intOf i).toNat)
  case atStart => exact ⟨0, [], Nat.zero_le _, rfl, World.ownsRow_nil _ _ _ _, .refl _, .nil, Below.refl _ _⟩
  case round =>
    obtain ⟨k, o, hk, rfl, hown, hmix, hup, hbw⟩ := hrel
    have HO := Lib.hid hown; have HM := Lib.hid hmix; have HU := Lib.hid hup; have HBW := Lib.hid hbw
    clear hmix hup
    by_cases hlt : k < n
    · have hkl : k < l.length := by have := HL.out.1; omega
      obtain ⟨e, r, hd, ht, hd', hes⟩ := drop_cons hkl
      have hke : l[k]? = some e := by
        have : (l.drop k)[0]? = some e := by rw [hd]; rfl
        rwa [List.getElem?_drop] at this
      have hom : o.length = k := by rw [← HM.out.1, List.length_take]; omega
      have HT := Lib.hid ht; have HKE := Lib.hid hke; have HES := Lib.hid hes; have HOM := Lib.hid hom
      clear hd ht hd' hkl
      obtain ⟨b, oo, rfl, hbl, hr⟩ := (HS.out.below hbw).at hke
      have HLE := Lib.hid (HS.out.below hbw)
      have HEX : Hid (∀ W, Below wr.heap.size wr W → loL 10 W b (oo + k * 10) = e.cells ∧ okL 10 W b (oo + k * 10)) := Lib.hid (fun W hb => by
        obtain ⟨b1, o1, e1, _, h1⟩ := (HLE.out.below hb).at hke
        injection e1 with e1; injection e1 with e1 e1'
        subst e1; subst e1'
        exact loL_of h1 (Pst.cells_length e))
      clear hke hr hes hbw
      obtain ⟨-, ⟨rfl, rfl⟩ | ⟨g, c, hv, hg, hgl, hc, hcx, hr⟩⟩ := recs_cases hown Pst.cells_length (by decide)
      · obtain rfl : k = 0 := hom.symm
        clear hown hom
        go_wp2_with fail
        obtain ⟨w0, rfl⟩ : ∃ w0, w0 = wr := ⟨_, rfl⟩
        go_loopw [5] (fun j wq => j = .int .i64 0 ∧ Below w0.heap.size w0 wq) (fun _ _ => 0)
        case atStart => exact ⟨rfl, Below.refl _ _⟩
        case round =>
          obtain ⟨rfl, hbq⟩ := hrel
          have HBQ := Lib.hid hbq; clear hbq
          go_wp2
          go_quiet (fail)
          have HBQ3 := Lib.hid (HBQ.out.trans (show Below w0.heap.size wr (wr.drewN nq) from ⟨rfl, rfl, rfl, Nat.le_refl _, fun _ _ => rfl⟩))
          clear HBQ
          generalize wr.drewN nq = wq at *
          have HBQ := HBQ3; clear HBQ3
          obtain ⟨t, ht⟩ : ∃ t : List Pst, t = [] := ⟨_, rfl⟩
          have HMX : Hid (Srt.Mix keyP (l.take (0 + 1)) ([] ++ e :: t)) := Lib.hid (by rw [HT.out, ht]; exact .refl _)
          have HUP : Hid (Srt.Up keyP ([] ++ e :: t)) := Lib.hid (by rw [ht]; exact .one e)
          obtain ⟨k, hk0⟩ : ∃ k, k = 0 := ⟨_, rfl⟩
          have HLT := Lib.hid (show 0 + t.length = k from by rw [ht, hk0]; rfl)
          go_wp2_with (at_builtin; refine wpList_append_recs elemP rfl _ _ rfl wq.heap.size _ 0 [] rfl (World.ownsRow_nil _ _ _ _) _ t rfl (by rw [ht]; exact LS.nil _) (by have := HLT.out; omega) (Nat.le_refl _) ?_; intro v1 w1 hown1 hg1 hn1 hat1)
          have HB1 : Hid (Below wq.heap.size wq w1) := Lib.hid ((Below.refl wq.heap.size wq).grown hg1 (Nat.le_refl _) (fun b hb => by cases hb))
          have HO1 := Lib.hid hown1
          have HBQ1 : Hid (Below w0.heap.size w0 w1) := Lib.hid (HBQ.out.trans (HB1.out.mono HBQ.out.size))
          have HBW1 : Hid (Below w.heap.size w w1) := Lib.hid (HBW.out.trans (HBQ1.out.mono HBW.out.size))
          obtain ⟨f1, f2⟩ := HEX.out w1 HBQ1.out
          unfold Pst.cells at f1
          try simp only [Nat.zero_mul, Nat.add_zero] at f1 f2
          clear hown1 hg1 hn1 hat1
          go_wp2_with fail
          go_region_law (first
            | (refine step_append_recs elemP rfl _ _ rfl w.heap.size _ 0 [] rfl (World.ownsRow_nil _ _ _ _) _ [e] rfl (row_one (x := e) (new_rowW _ _ _ rfl) rfl Pst.cells_length (by decide)) (by have := HLT.out; simp <;> omega) (by have := HBW.out.size; have := HBQ1.out.size; simp <;> omega) ?_; intro v2 w2 hown2 hg2 hn2)
            | (refine step_append_recs elemP rfl _ _ rfl w.heap.size _ (0 + 1) ([] ++ [e]) rfl hown2 _ t rfl (((LS.of_own HO1.out Pst.cells_length (by decide)).below ((Below.refl _ _).drew.alloc (Nat.le_refl _) _)).keep hg2.size (fun b hb hlt => hg2.block b hlt (fun e1 => by have e2 : some b = none := e1; cases e2))) (by have := HLT.out; simp <;> omega) (by have := HBW.out.size; have := HBQ1.out.size; have := hg2.size; simp at this ⊢; omega) ?_; intro v3 w3 hown3 hg3 hn3))
          all_goals
            have HO3 : Hid (w3.ownsRow w.heap.size 68 10 v3 ([] ++ e :: t).length (encL Pst.cells ([] ++ e :: t))) := Lib.hid (by
              have h1 := hown3
              rw [show ([] ++ [e] : List Pst) ++ t = [] ++ e :: t from by simp] at h1
              rw [show ([] ++ e :: t : List Pst).length = 0 + 1 + t.length from by simp <;> omega]
              exact h1)
            have HB3 : Hid (Below w.heap.size w w3) := Lib.hid (((HBW1.out.drew.alloc HBW1.out.size _).grown hg2 (by have := HBW1.out.size; simp <;> omega) (fun b hb => by have hb1 : (none : Option Nat) = some b := hb; cases hb1)).grown hg3 (by have := HBW1.out.size; have := hg2.size; simp at this; omega) (fun b hb => (recs_base hown2 hb).1))
            clear hown2 hg2 hn2 hown3 hg3 hn3 f1 f2
            go_wp2
            go_roundw
            case rel => exact ⟨0 + 1, _, by omega, by go_num, HO3.out, HMX.out, HUP.out, HB3.out⟩
            case measure => simp [intOf]; omega
      · rw [hom] at hv hc
        subst hv
        have HC := Lib.hid (show k ≤ c ∧ c ≤ 9223372036854775807 from ⟨hc, by simpa only [maxLen] using hcx⟩)
        have HG := Lib.hid (show w.heap.size ≤ g ∧ g < wr.heap.size from ⟨hg, hgl⟩)
        have HLO : Hid (LS Pst.cells 10 wr (.slice (some ⟨g, 0, none⟩) k c) o) := Lib.hid (by have := hr.slice Pst.cells_length (by decide) (by rw [hom]; exact hc) hcx; rwa [hom] at this)
        clear hown hom hr hg hgl hcx
        have hkb : k ≤ 1000000 := by omega
        go_wp2_with fail
        obtain ⟨w0, rfl⟩ : ∃ w0, w0 = wr := ⟨_, rfl⟩
        go_loopw [5] (fun j wq => ∃ (u t : List Pst), j = .int .i64 (u.length : Int) ∧ o = u ++ t ∧ (∀ x ∈ t, keyP e < keyP x) ∧ Below w0.heap.size w0 wq) (fun j _ => (intOf j).toNat)
        case atStart => exact ⟨o, [], by rw [HOM.out], by simp, fun x hx => absurd hx (by simp), Below.refl _ _⟩
        case round =>
          obtain ⟨u, t, rfl, huo, ht, hbq⟩ := hrel
          have HT2 := Lib.hid ht; have HBQ := Lib.hid hbq
          have huk : u.length + t.length = k := by rw [← HOM.out, huo, List.length_append]
          have HUO := Lib.hid huo
          clear ht hbq
          by_cases hu0 : u.length = 0
          · have hun : u = [] := List.length_eq_zero_iff.1 hu0
            rw [hu0]
            rw [hun] at huo
            have huo : o = t := huo
            subst huo
            have HT2 : Hid (∀ x ∈ o, keyP e < keyP x) := HT2
            have HMX : Hid (Srt.Mix keyP (l.take (k + 1)) ([] ++ e :: o)) := Lib.hid (by rw [HT.out]; exact (HM.out.app (.refl [e])).trans (Srt.insert_mix (u := []) HT2.out))
            have HUP : Hid (Srt.Up keyP ([] ++ e :: o)) := Lib.hid (Srt.insert_up (u := []) HU.out HT2.out (fun i x hx _ => by cases hx))
            obtain ⟨t, ht⟩ : ∃ t, t = o := ⟨_, rfl⟩
            rw [← ht] at HMX HUP
            have HOWN : Hid (∀ W, Below w0.heap.size w0 W → W.ownsRow w.heap.size 68 10 (.slice (some ⟨g, 0, none⟩) 0 c) 0 (encL Pst.cells [])) := Lib.hid (fun W hb => by
              have h1 := recs_below HO.out hb
              rw [HOM.out] at h1
              exact recs_take h1 Pst.cells_length (Nat.zero_le _))
            have htk : 0 + t.length = k := by rw [ht, HOM.out, Nat.zero_add]
            go_wp2
            go_quiet (fail)
            have HBQ3 := Lib.hid (HBQ.out.trans (show Below w0.heap.size wr (wr.drewN nq) from ⟨rfl, rfl, rfl, Nat.le_refl _, fun _ _ => rfl⟩))
            clear HBQ
            generalize wr.drewN nq = wq at *
            have HBQ := HBQ3; clear HBQ3
            have HLT := Lib.hid (show 0 + t.length = k from htk)
            go_wp2_with (at_builtin; refine wpList_append_recs elemP rfl _ _ rfl wq.heap.size _ 0 [] rfl (World.ownsRow_nil _ _ _ _) _ t rfl (by rw [ht]; exact HLO.out.below HBQ.out) (by have := HLT.out; omega) (Nat.le_refl _) ?_; intro v1 w1 hown1 hg1 hn1 hat1)
            have HB1 : Hid (Below wq.heap.size wq w1) := Lib.hid ((Below.refl wq.heap.size wq).grown hg1 (Nat.le_refl _) (fun b hb => by cases hb))
            have HO1 := Lib.hid hown1
            have HBQ1 : Hid (Below w0.heap.size w0 w1) := Lib.hid (HBQ.out.trans (HB1.out.mono HBQ.out.size))
            have HBW1 : Hid (Below w.heap.size w w1) := Lib.hid (HBW.out.trans (HBQ1.out.mono HBW.out.size))
            obtain ⟨f1, f2⟩ := HEX.out w1 HBQ1.out
            unfold Pst.cells at f1
            try simp only [Nat.zero_mul, Nat.add_zero] at f1 f2
            clear hown1 hg1 hn1 hat1
            go_wp2_with fail
            go_region_law (first
              | (refine step_append_recs elemP rfl _ _ rfl w.heap.size _ 0 [] rfl (HOWN.out _ (HBQ1.out.drew.alloc HBQ1.out.size _)) _ [e] rfl (row_one (x := e) (new_rowW _ _ _ rfl) rfl Pst.cells_length (by decide)) (by have := HLT.out; simp <;> omega) (by have := HBW.out.size; have := HBQ1.out.size; simp <;> omega) ?_; intro v2 w2 hown2 hg2 hn2)
              | (refine step_append_recs elemP rfl _ _ rfl w.heap.size _ (0 + 1) ([] ++ [e]) rfl hown2 _ t rfl (((LS.of_own HO1.out Pst.cells_length (by decide)).below ((Below.refl _ _).drew.alloc (Nat.le_refl _) _)).keep hg2.size (fun b hb hlt => hg2.block b hlt (fun e1 => by have e2 : some b = some g := e1; injection e2 with e2; have e3 := (recs_base HO1.out hb).1; have e4 := HG.out.2; have e5 := HBQ.out.size; omega))) (by have := HLT.out; simp <;> omega) (by have := HBW.out.size; have := HBQ1.out.size; have := hg2.size; simp at this ⊢; omega) ?_; intro v3 w3 hown3 hg3 hn3))
            all_goals
              have HO3 : Hid (w3.ownsRow w.heap.size 68 10 v3 ([] ++ e :: t).length (encL Pst.cells ([] ++ e :: t))) := Lib.hid (by
                have h1 := hown3
                rw [show ([] ++ [e] : List Pst) ++ t = [] ++ e :: t from by simp] at h1
                rw [show ([] ++ e :: t : List Pst).length = 0 + 1 + t.length from by simp <;> omega]
                exact h1)
              have HB3 : Hid (Below w.heap.size w w3) := Lib.hid (((HBW1.out.drew.alloc HBW1.out.size _).grown hg2 (by have := HBW1.out.size; simp <;> omega) (fun b hb => by have hb1 : some g = some b := hb; injection hb1 with hb1; rw [← hb1]; exact HG.out.1)).grown hg3 (by have := HBW1.out.size; have := hg2.size; simp at this; omega) (fun b hb => (recs_base hown2 hb).1))
              clear hown2 hg2 hn2 hown3 hg3 hn3 f1 f2
              go_wp2
              go_roundw
              case rel => exact ⟨k + 1, _, by omega, by go_num, HO3.out, HMX.out, HUP.out, HB3.out⟩
              case measure => simp [intOf]; omega
          · obtain ⟨u1, d, rfl⟩ := snoc_of (Nat.pos_of_ne_zero hu0)
            obtain ⟨q1, hq1⟩ : ∃ q1, q1 = u1.length := ⟨_, rfl⟩
            obtain ⟨q, hq⟩ : ∃ q, q = q1 + 1 := ⟨_, rfl⟩
            have hul : (u1 ++ [d]).length = q := by rw [hq, hq1]; simp
            have hod : o[q1]? = some d := by rw [huo, hq1, List.append_assoc, List.getElem?_append_right (Nat.le_refl _), Nat.sub_self]; rfl
            have hdo : d ∈ o := List.mem_of_getElem? hod
            have HKEY := Lib.hid (less_key (HWF.out e HES.out) (HWF.out d (List.mem_of_mem_take (HM.out.symm.mem hdo))))
            have HTWO := Lib.hid (fun W hb => ls_two HLE.out HLO.out HKE.out hod W hb)
            obtain ⟨f1, f2, f3, f4⟩ := HTWO.out wr HBQ.out
            have HAH := Lib.hid (fun W => ahead_cells e d W)
            have hs1 : IntKind.i64.wrap ((q : Int) - 1) = (q1 : Int) := by rw [IntKind.wrap_i64]; omega
            have hqt : q + t.length = k := by rw [← hul]; exact huk
            have hq1k : (q1 : Int) < (k : Int) := by omega
            have hq10 : (0 : Int) ≤ (q1 : Int) := by omega
            have hqk : q ≤ k := by omega
            have hG : decide ((0 : Int) < (q : Int)) = true := by simp; omega
            have hG' : decide (0 < q) = true := by simp; omega
            have HQ1 := Lib.hid hq1; have HQ := Lib.hid hq; have HQT := Lib.hid hqt; have HUL := Lib.hid hul
            rw [hul]
            obtain ⟨bb, hbb⟩ : ∃ bb, lessP e d = bb := ⟨_, rfl⟩
            have HBB := Lib.hid hbb
            rw [hbb] at HAH HKEY
            generalize hce : e.cells = ce at *
            generalize hcd : d.cells = cd at *
            have HCE := Lib.hid hce
            clear hce hcd hq hq1 hqt hul hod hdo huo hu0 huk hbb
            cases bb
            all_goals
              go_wp2
              go_region_held3 (fun w' => loL 10 w' b (oo + k * 10) = ce ∧ okL 10 w' b (oo + k * 10) ∧ loL 10 w' g (q1 * 10) = cd ∧ okL 10 w' g (q1 * 10)) (first | exact ⟨f1, f2, f3, f4⟩ | exact ⟨x1, x2, x3, x4⟩) ((go_at_call 94; refine (HAH.out _).mono ?_; rintro e w1 ⟨rfl, hb1⟩; have hb2 := (Below.refl wr.heap.size wr).drew.trans hb1; obtain ⟨x1, x2, x3, x4⟩ := (HTWO.out _ (HBQ.out.trans (hb2.mono HBQ.out.size)))))
              have HBQ3 := Lib.hid (HBQ.out.trans (hb2.mono HBQ.out.size))
              clear hb1 hb2 f1 f2 f3 f4 x1 x2 x3 x4 HBQ
              obtain ⟨wq, rfl⟩ : ∃ z, z = w1 := ⟨_, rfl⟩
              have HBQ := HBQ3; clear HBQ3
            · have HMX : Hid (Srt.Mix keyP (l.take (k + 1)) ((u1 ++ [d]) ++ e :: t)) := Lib.hid (by rw [HT.out]; refine (HM.out.app (.refl [e])).trans ?_; rw [HUO.out]; exact Srt.insert_mix HT2.out)
              have HUP : Hid (Srt.Up keyP ((u1 ++ [d]) ++ e :: t)) := Lib.hid (Srt.insert_up (by rw [← HUO.out]; exact HU.out) HT2.out (fun i x hx hi => by
                rw [List.length_append] at hi
                simp at hi
                subst hi
                rw [List.getElem?_append_right (Nat.le_refl _), Nat.sub_self] at hx
                injection hx with hx
                subst hx
                have := HKEY.out
                simp at this
                exact this))
              have HOWN : Hid (∀ W, Below w0.heap.size w0 W → W.ownsRow w.heap.size 68 10 (.slice (some ⟨g, 0, none⟩) q c) q (encL Pst.cells (u1 ++ [d]))) := Lib.hid (fun W hb => by
                have h1 := recs_below HO.out hb
                rw [HOM.out] at h1
                have h2 := recs_take h1 Pst.cells_length hqk
                rwa [HUO.out, ← HUL.out, List.take_left, HUL.out] at h2)
              have HDR : Hid (LS Pst.cells 10 wq (.slice (some ⟨g, 0 + q * 10, none⟩) (k - q) (c - q)) t) := Lib.hid (by
                have h1 := (HLO.out.below HBQ.out).drop hqk
                rwa [HUO.out, ← HUL.out, List.drop_left, HUL.out] at h1)
              have hlen : ∀ x : List Pst, (u1 ++ [d] ++ x).length = q + x.length := fun x => by rw [List.length_append, HUL.out]
              have HLEN := Lib.hid hlen; clear hlen
              generalize u1 ++ [d] = u at *
              have hce := HCE.out; subst hce
              clear HTWO HAH HKEY HUO HUL HCE
              by_cases hcq : c = q
              · subst hcq
                have ht0 : t = [] := List.length_eq_zero_iff.1 (by have := HQT.out; omega)
                have HLT := Lib.hid (show c + t.length = k from HQT.out)
                go_wp2_with (at_builtin; refine wpList_append_recs elemP rfl _ _ rfl wq.heap.size _ 0 [] rfl (World.ownsRow_nil _ _ _ _) _ t rfl (by rw [ht0]; exact ls_empty (by have h8 := HQT.out; rw [ht0, List.length_nil] at h8 <;> first | omega | (simp <;> omega)) (by first | omega | (simp [maxLen] <;> omega))) (by have := HLT.out; omega) (Nat.le_refl _) ?_; intro v1 w1 hown1 hg1 hn1 hat1)
                have HB1 : Hid (Below wq.heap.size wq w1) := Lib.hid ((Below.refl wq.heap.size wq).grown hg1 (Nat.le_refl _) (fun b hb => by cases hb))
                have HO1 := Lib.hid hown1
                have HBQ1 : Hid (Below w0.heap.size w0 w1) := Lib.hid (HBQ.out.trans (HB1.out.mono HBQ.out.size))
                have HBW1 : Hid (Below w.heap.size w w1) := Lib.hid (HBW.out.trans (HBQ1.out.mono HBW.out.size))
                obtain ⟨f1, f2⟩ := HEX.out w1 HBQ1.out
                unfold Pst.cells at f1
                try simp only [Nat.zero_mul, Nat.add_zero] at f1 f2
                clear hown1 hg1 hn1 hat1
                go_wp2_with fail
                go_region_law (first
                  | (refine step_append_recs elemP rfl _ _ rfl w.heap.size _ c u rfl (HOWN.out _ (HBQ1.out.drew.alloc HBQ1.out.size _)) _ [e] rfl (row_one (x := e) (new_rowW _ _ _ rfl) rfl Pst.cells_length (by decide)) (by have := HLT.out; simp <;> omega) (by have := HBW.out.size; have := HBQ1.out.size; simp <;> omega) ?_; intro v2 w2 hown2 hg2 hn2)
                  | (refine step_append_recs elemP rfl _ _ rfl w.heap.size _ (c + 1) (u ++ [e]) rfl hown2 _ t rfl (((LS.of_own HO1.out Pst.cells_length (by decide)).below ((Below.refl _ _).drew.alloc (Nat.le_refl _) _)).keep hg2.size (fun b hb hlt => hg2.block b hlt (fun e1 => by have e2 : some b = some g := e1; injection e2 with e2; have e3 := (recs_base HO1.out hb).1; have e4 := HG.out.2; have e5 := HBQ.out.size; omega))) (by have := HLT.out; simp <;> omega) (by have := HBW.out.size; have := HBQ1.out.size; have := hg2.size; simp at this ⊢; omega) ?_; intro v3 w3 hown3 hg3 hn3))
                all_goals
                  have HO3 : Hid (w3.ownsRow w.heap.size 68 10 v3 (u ++ e :: t).length (encL Pst.cells (u ++ e :: t))) := Lib.hid (by
                    have h1 := hown3
                    rw [show (u ++ [e] : List Pst) ++ t = u ++ e :: t from by simp] at h1
                    rw [show (u ++ e :: t : List Pst).length = c + 1 + t.length from by rw [HLEN.out]; simp; omega]
                    exact h1)
                  have HB3 : Hid (Below w.heap.size w w3) := Lib.hid (((HBW1.out.drew.alloc HBW1.out.size _).grown hg2 (by have := HBW1.out.size; simp <;> omega) (fun b hb => by have hb1 : some g = some b := hb; injection hb1 with hb1; rw [← hb1]; exact HG.out.1)).grown hg3 (by have := HBW1.out.size; have := hg2.size; simp at this; omega) (fun b hb => (recs_base hown2 hb).1))
                  clear hown2 hg2 hn2 hown3 hg3 hn3 f1 f2
                  go_wp2
                  go_roundw
                  case rel => exact ⟨k + 1, _, by omega, by go_num, HO3.out, HMX.out, HUP.out, HB3.out⟩
                  case measure => simp [intOf]; omega

              · have hqc : q ≤ c := by omega
                have hqc2 : (q : Int) ≤ (c : Int) := by omega
                have HLT := Lib.hid (show q + t.length = k from HQT.out)
                go_wp2_with (at_builtin; refine wpList_append_recs elemP rfl _ _ rfl wq.heap.size _ 0 [] rfl (World.ownsRow_nil _ _ _ _) _ t rfl (by have h9 := HDR.out; rwa [Nat.zero_add] at h9) (by have := HLT.out; omega) (Nat.le_refl _) ?_; intro v1 w1 hown1 hg1 hn1 hat1)
                have HB1 : Hid (Below wq.heap.size wq w1) := Lib.hid ((Below.refl wq.heap.size wq).grown hg1 (Nat.le_refl _) (fun b hb => by cases hb))
                have HO1 := Lib.hid hown1
                have HBQ1 : Hid (Below w0.heap.size w0 w1) := Lib.hid (HBQ.out.trans (HB1.out.mono HBQ.out.size))
                have HBW1 : Hid (Below w.heap.size w w1) := Lib.hid (HBW.out.trans (HBQ1.out.mono HBW.out.size))
                obtain ⟨f1, f2⟩ := HEX.out w1 HBQ1.out
                unfold Pst.cells at f1
                try simp only [Nat.zero_mul, Nat.add_zero] at f1 f2
                clear hown1 hg1 hn1 hat1
                go_wp2_with fail
                go_region_law (first
                  | (refine step_append_recs elemP rfl _ _ rfl w.heap.size _ q u rfl (HOWN.out _ (HBQ1.out.drew.alloc HBQ1.out.size _)) _ [e] rfl (row_one (x := e) (new_rowW _ _ _ rfl) rfl Pst.cells_length (by decide)) (by have := HLT.out; simp <;> omega) (by have := HBW.out.size; have := HBQ1.out.size; simp <;> omega) ?_; intro v2 w2 hown2 hg2 hn2)
                  | (refine step_append_recs elemP rfl _ _ rfl w.heap.size _ (q + 1) (u ++ [e]) rfl hown2 _ t rfl (((LS.of_own HO1.out Pst.cells_length (by decide)).below ((Below.refl _ _).drew.alloc (Nat.le_refl _) _)).keep hg2.size (fun b hb hlt => hg2.block b hlt (fun e1 => by have e2 : some b = some g := e1; injection e2 with e2; have e3 := (recs_base HO1.out hb).1; have e4 := HG.out.2; have e5 := HBQ.out.size; omega))) (by have := HLT.out; simp <;> omega) (by have := HBW.out.size; have := HBQ1.out.size; have := hg2.size; simp at this ⊢; omega) ?_; intro v3 w3 hown3 hg3 hn3))
                all_goals
                  have HO3 : Hid (w3.ownsRow w.heap.size 68 10 v3 (u ++ e :: t).length (encL Pst.cells (u ++ e :: t))) := Lib.hid (by
                    have h1 := hown3
                    rw [show (u ++ [e] : List Pst) ++ t = u ++ e :: t from by simp] at h1
                    rw [show (u ++ e :: t : List Pst).length = q + 1 + t.length from by rw [HLEN.out]; simp; omega]
                    exact h1)
                  have HB3 : Hid (Below w.heap.size w w3) := Lib.hid (((HBW1.out.drew.alloc HBW1.out.size _).grown hg2 (by have := HBW1.out.size; simp <;> omega) (fun b hb => by have hb1 : some g = some b := hb; injection hb1 with hb1; rw [← hb1]; exact HG.out.1)).grown hg3 (by have := HBW1.out.size; have := hg2.size; simp at this; omega) (fun b hb => (recs_base hown2 hb).1))
                  clear hown2 hg2 hn2 hown3 hg3 hn3 f1 f2
                  go_wp2
                  go_roundw
                  case rel => exact ⟨k + 1, _, by omega, by go_num, HO3.out, HMX.out, HUP.out, HB3.out⟩
                  case measure => simp [intOf]; omega

            · go_wp2
              go_roundw
              case rel =>
                refine ⟨u1, d :: t, by rw [HQ1.out], by rw [HUO.out]; simp, ?_, HBQ.out⟩
                intro x hx
                rcases List.mem_cons.1 hx with rfl | hx
                · have h9 := HKEY.out; simp at h9; exact h9
                · exact HT2.out x hx
              case measure => have := HQ.out; simp [intOf]; omega
    · obtain rfl : k = n := by omega
      have hv : Srt.Mix keyP l o := by have := HM.out; rwa [List.take_of_length_le (by have := HL.out.1; omega)] at this
      have HV := Lib.hid hv
      clear hv hown hbw
      go_wp2
      go_ret
      exact ⟨_, o, rfl, HV.out, HU.out, HO.out, HBW.out⟩
end Go.Proofs.Ytajpggnmhkpbkaa
