/- Contract: slices.insertionSortCmpFunc at postings. -/
import Derived.Test.YtajpggnmhkpbkaaRfw14
import Derived.Deep.RegionHeld3
import Derived.Deep.QuietTactic
import Derived.BigQuiet

set_option linter.unusedVariables false
set_option linter.unusedSimpArgs false
namespace Go.Proofs.Ytajpggnmhkpbkaa
open Go.RowKit
attribute [local go_sem ↓] post_execLoad post_execStore

attribute [local go_sem] post_load post_store loL_drew okL_drew there_sc World.there_drew

def WF (l : List Pst) : Prop := ∀ x ∈ l, x.wf
theorem at_mid1 {α : Type} (A C : List α) (u : α) : (A ++ u :: C)[A.length]? = some u := by
  rw [List.getElem?_append_right (Nat.le_refl _), Nat.sub_self, List.getElem?_cons_zero]
theorem row_at {w : World} {g : Nat} {l : List Pst} {i : Nat} {x : Pst} (h : RowL Pst.cells 10 w g l) (hx : l[i]? = some x) : loL 10 w g (i * 10) = x.cells ∧ okL 10 w g (i * 10) ∧ w.there g (i * 10) 10 := by
  obtain ⟨h1, h2⟩ := loL_of (h.1 i x hx) x.cells_length
  exact ⟨h1, h2, h.2 i (List.getElem?_eq_some_iff.1 hx).1⟩
theorem snoc_of {α : Type} {l : List α} (h : 0 < l.length) : ∃ a b, l = a ++ [b] :=
  ⟨l.dropLast, l.getLast (fun e => by rw [e] at h; exact absurd h (Nat.lt_irrefl 0)), (List.dropLast_concat_getLast _).symm⟩
theorem drop_cons {α : Type} {l : List α} {k : Nat} (h : k < l.length) : ∃ e r, l.drop k = e :: r ∧ l.take (k + 1) = l.take k ++ [e] ∧ l.drop (k + 1) = r ∧ e ∈ l :=
  ⟨l[k], l.drop (k + 1), List.drop_eq_getElem_cons h, by rw [List.take_succ_eq_append_getElem h], rfl, List.getElem_mem h⟩

set_option maxRecDepth 100000 in
set_option maxHeartbeats 1000000 in
theorem isort_any (P s Q : List Pst) (hwf : WF s) (g cap : Nat) (w : World) (hcap : (P ++ s ++ Q).length ≤ cap) (hmax : (P ++ s ++ Q).length ≤ 1099511627776)
    (h : RowL Pst.cells 10 w g (P ++ s ++ Q)) :
    Calls Try.prog 87 #[.slice (some ⟨g, 0, none⟩) (P ++ s ++ Q).length cap, .int .i64 (P.length : Int), .int .i64 ((P ++ s).length : Int), .func (.func 61) #[] #[]] w
      fun e w' => e = .returned (.tuple #[]) ∧ ∃ s', Srt.Mix keyP s s' ∧ Srt.Up keyP s' ∧ RowL Pst.cells 10 w' g (P ++ s' ++ Q) ∧ Only g w w' := by
  generalize hN : (P ++ s ++ Q).length = N at *
  generalize ha : P.length = a at *
  generalize hb : (P ++ s).length = b at *
  have e1 : b = a + s.length := by rw [← hb, ← ha]; simp
  have e3 : b ≤ N := by rw [← hb, ← hN]; simp
  generalize hn : s.length = n at *
  have HH := Lib.hid h; have HN := Lib.hid hN; have HA := Lib.hid ha; have HSL := Lib.hid hn; have HE1 := Lib.hid e1; have HWF := Lib.hid hwf
  clear h hN ha hn hb hwf
  obtain ⟨a1, ha1⟩ : ∃ a1, a1 = a + 1 := ⟨_, rfl⟩
  have hs0 : IntKind.i64.wrap ((a : Int) + 1) = (a1 : Int) := by rw [IntKind.wrap_i64]; omega
  have HA1 := Lib.hid ha1; clear ha1
  have hab : a ≤ b := by omega
  clear e1
  go_enter Try.func87, Try.ntmps87
  go_wp2
  go_loopw [8] (fun i wr => ∃ (k : Nat) (t : List Pst), 1 ≤ k ∧ k ≤ n + 1 ∧ i = .int .i64 ((a + k : Nat) : Int) ∧ Srt.Mix keyP (s.take k) t ∧ Srt.Up keyP t ∧ RowL Pst.cells 10 wr g (P ++ t ++ s.drop k ++ Q) ∧ Only g w wr) (fun i _ => ((b : Int) - (intOf i)).toNat)
  case atStart =>
    refine ⟨1, s.take 1, Nat.le_refl _, by omega, by rw [HA1.out], .refl _, ?_, by rw [List.append_assoc P, List.take_append_drop]; exact HH.out, Only.refl _ _⟩
    cases s with
    | nil => exact .nil
    | cons x r => exact .one x
  case round =>
    obtain ⟨k, t, hk1, hk2, rfl, hmix, hup, hrow, hon⟩ := hrel
    have HM := Lib.hid hmix; have HU := Lib.hid hup; have HR := Lib.hid hrow; have HO := Lib.hid hon
    clear hmix hup hrow hon
    obtain ⟨p, hp⟩ : ∃ p, p = a + k := ⟨_, rfl⟩
    rw [← hp]
    have hpa : a < p := by omega
    have HP := Lib.hid hp
    by_cases hlt : p < b
    · have hkn : k < s.length := by have := HSL.out; have := HE1.out; omega
      obtain ⟨e, r, hd, ht, hd', hes⟩ := drop_cons hkn
      have htl : t.length = k := by rw [← HM.out.1, List.length_take]; omega
      have HRS : Hid (RowL Pst.cells 10 wr g (P ++ t ++ e :: [] ++ r ++ Q)) := Lib.hid (by have := HR.out; rw [hd] at this; simpa using this)
      have HEW := Lib.hid (HWF.out e hes)
      have HFIN : Hid (∀ u v wq, Srt.Mix keyP (s.take k) (u ++ v) → Srt.Up keyP (u ++ v) → (∀ x ∈ v, keyP e < keyP x) → (∀ i x, u[i]? = some x → i + 1 = u.length → keyP x ≤ keyP e) → RowL Pst.cells 10 wq g (P ++ u ++ e :: v ++ r ++ Q) →
          ∃ t', Srt.Mix keyP (s.take (k + 1)) t' ∧ Srt.Up keyP t' ∧ RowL Pst.cells 10 wq g (P ++ t' ++ s.drop (k + 1) ++ Q)) := Lib.hid (by
        intro u v wq h1 h2 h3 h4 h5
        refine ⟨u ++ e :: v, ?_, Srt.insert_up h2 h3 h4, by rw [hd']; simpa using h5⟩
        rw [ht]
        exact (h1.app (.refl [e])).trans (Srt.insert_mix h3))
      have HTL := Lib.hid htl; have HD := Lib.hid hd; have HT := Lib.hid ht
      have HES := Lib.hid hes
      clear hd ht hd' htl hkn hp hes
      obtain ⟨p1, hp1⟩ : ∃ p1, p1 = p + 1 := ⟨_, rfl⟩
      have hs1 : IntKind.i64.wrap ((p : Int) + 1) = (p1 : Int) := by rw [IntKind.wrap_i64]; omega
      have HP1 := Lib.hid hp1; clear hp1
      go_wp2
      go_loopw [9] (fun j wq => ∃ (u v : List Pst), j = .int .i64 ((a + u.length : Nat) : Int) ∧ u.length ≤ k ∧ Srt.Mix keyP (s.take k) (u ++ v) ∧ Srt.Up keyP (u ++ v) ∧ (∀ x ∈ v, keyP e < keyP x) ∧ RowL Pst.cells 10 wq g (P ++ u ++ e :: v ++ r ++ Q) ∧ Only g w wq) (fun j _ => ((intOf j) - (a : Int)).toNat)
      case atStart => exact ⟨t, [], by rw [HTL.out, HP.out], by rw [HTL.out]; exact Nat.le_refl _, by simpa using HM.out, by simpa using HU.out, fun x hx => absurd hx (by simp), by simpa using HRS.out, HO.out⟩
      case round =>
        obtain ⟨u, v, rfl, huk, hmix, hup, hv, hrow, hon⟩ := hrel
        have HM2 := Lib.hid hmix; have HU2 := Lib.hid hup; have HV2 := Lib.hid hv; have HR2 := Lib.hid hrow; have HO2 := Lib.hid hon
        clear hmix hup hv hrow hon
        obtain ⟨q, hq⟩ : ∃ q, q = a + u.length := ⟨_, rfl⟩
        rw [← hq]
        by_cases hu0 : u.length = 0
        · have hqa : q = a := by omega
          have HQ := Lib.hid hqa
          have hG : decide ((a : Int) < (q : Int)) = false := by simp; omega
          have hG' : decide (a < q) = false := by simp; omega
          have hun : u = [] := List.length_eq_zero_iff.1 hu0
          have HF := Lib.hid (HFIN.out u v _ HM2.out HU2.out HV2.out (fun i x hx _ => by rw [hun] at hx; cases hx) HR2.out)
          clear hq hqa hu0 hun
          go_wp2
          go_quiet (fail)
          go_wp2
          go_roundw
          case rel =>
            obtain ⟨t', f1, f2, f3⟩ := HF.out
            exact ⟨k + 1, t', by omega, by have := HSL.out; have := HE1.out; have := HP.out; omega, by rw [HP1.out, HP.out]; go_num, f1, f2, f3.block rfl, HO2.out.drewN _⟩
          case measure => have := HP1.out; simp [intOf]; omega
        · obtain ⟨u1, d, rfl⟩ := snoc_of (Nat.pos_of_ne_zero hu0)
          have hul : (u1 ++ [d]).length = u1.length + 1 := by simp
          have hqa : a < q := by omega
          have hG : decide ((a : Int) < (q : Int)) = true := by simp; omega
          have hL : P ++ (u1 ++ [d]) ++ e :: v ++ r ++ Q = (P ++ u1) ++ d :: ([] ++ e :: (v ++ r ++ Q)) := by simp
          have hR3 : RowL Pst.cells 10 wr g ((P ++ u1) ++ d :: ([] ++ e :: (v ++ r ++ Q))) := by rw [← hL]; exact HR2.out
          have hat := at_mid (P ++ u1) [] (v ++ r ++ Q) d e
          obtain ⟨q1, hq1⟩ : ∃ q1, q1 = a + u1.length := ⟨_, rfl⟩
          have hla : (P ++ u1).length = q1 := by rw [List.length_append, HA.out, hq1]
          have hlb : (P ++ u1).length + 1 + ([] : List Pst).length = q := by rw [hla]; simp at *; omega
          obtain ⟨f1, f2, f3⟩ := row_at hR3 hat.1
          obtain ⟨f4, f5, f6⟩ := row_at hR3 hat.2
          rw [hla] at f1 f2 f3
          rw [hlb] at f4 f5 f6
          have hdw : d.wf := by
            have h1 : d ∈ s.take k := HM2.out.symm.mem (by simp)
            exact HWF.out d (List.mem_of_mem_take h1)
          have HOC := Lib.hid (fun W => order_cells e d W)
          have HKEY := Lib.hid (ord_key HEW.out hdw)
          have HTWO : Hid (∀ W, RowL Pst.cells 10 W g ((P ++ u1) ++ d :: ([] ++ e :: (v ++ r ++ Q))) → loL 10 W g (q1 * 10) = d.cells ∧ okL 10 W g (q1 * 10) ∧ W.there g (q1 * 10) 10 ∧ loL 10 W g (q * 10) = e.cells ∧ okL 10 W g (q * 10) ∧ W.there g (q * 10) 10) := Lib.hid (fun W h => by
            obtain ⟨f1, f2, f3⟩ := row_at h hat.1
            obtain ⟨f4, f5, f6⟩ := row_at h hat.2
            rw [hla] at f1 f2 f3
            rw [hlb] at f4 f5 f6
            exact ⟨f1, f2, f3, f4, f5, f6⟩)
          have hqN : (q : Int) < (N : Int) := by have h1 := huk; have h2 := HE1.out; have h3 := HP.out; simp at h1 hq; omega
          have hq1N : (q1 : Int) < (N : Int) := by omega
          have hq0 : (0 : Int) ≤ (q : Int) := by omega
          have hq10 : (0 : Int) ≤ (q1 : Int) := by omega
          have hs2 : IntKind.i64.wrap ((q : Int) - 1) = (q1 : Int) := by rw [IntKind.wrap_i64]; omega
          have hgw : g < wr.heap.size := okL_block f2 (by decide)
          have HR3 := Lib.hid hR3; have HLA := Lib.hid hla; have HLB := Lib.hid hlb; have HQ := Lib.hid hq; have HQ1 := Lib.hid hq1
          have hl1 := d.cells_length
          have hl2 := e.cells_length
          have ho1 : d.cells.all (·.oneCell') = true := List.all_eq_true.2 (Pst.cells_one d)
          have ho2 : e.cells.all (·.oneCell') = true := List.all_eq_true.2 (Pst.cells_one e)
          generalize hcd : d.cells = cd at *
          generalize hce : e.cells = ce at *
          generalize ordI e d = res at *
          have HCD := Lib.hid hcd; have HCE := Lib.hid hce
          clear hcd hce hul hL hR3 hat hla hlb hq hq1 hu0
          by_cases hres : res < 0
          · have hG2 : decide (res < 0) = true := by simpa using hres
            go_wp2
            go_region_held3 (fun w' => loL 10 w' g (q1 * 10) = cd ∧ okL 10 w' g (q1 * 10) ∧ loL 10 w' g (q * 10) = ce ∧ okL 10 w' g (q * 10)) (first | exact ⟨f1, f2, f4, f5⟩ | exact ⟨x1, x2, x4, x5⟩) ((go_at_call 61; refine (HOC.out _).mono ?_; rintro e w1 ⟨rfl, hb1⟩; have hb2 := (Below.refl wr.heap.size wr).drew.trans hb1; obtain ⟨x1, x2, x3, x4, x5, x6⟩ := (HTWO.out _ (HR3.out.below hgw hb2))))
            have HB2 := Lib.hid hb2
            have HS1 := Lib.hid hb2.size
            clear hb1 hb2 f1 f2 f3 f4 f5 f6
            go_wp2
            go_region
            go_wp2
            go_roundw
            case rel =>
              refine ⟨u1, d :: v, by rw [HQ1.out], by have h1 := huk; simp at h1; omega, by simpa using HM2.out, by simpa using HU2.out, ?_, ?_, ((HO2.out.trans (.of_below HB2.out)).drew.setCells _ _).setCells _ _⟩
              · intro x hx
                rcases List.mem_cons.1 hx with rfl | hx
                · exact HKEY.out.1 hres
                · exact HV2.out x hx
              · have h1 := RowL.swap' (w := w1.drew) Pst.cells_length (HR3.out.below hgw HB2.out.drew)
                rw [HLB.out, HLA.out, HCD.out, HCE.out] at h1
                simpa using h1
            case measure => have h1 := HQ.out; have h2 := HQ1.out; simp at h1; simp [intOf]; omega
          · have hG2 : decide (res < 0) = false := by simpa using hres
            have HF := Lib.hid (fun W => HFIN.out (u1 ++ [d]) v W HM2.out HU2.out HV2.out (fun i x hx hi => by
              rw [List.length_append] at hi
              simp at hi
              subst hi
              rw [List.getElem?_append_right (Nat.le_refl _), Nat.sub_self] at hx
              injection hx with hx
              subst hx
              have := HKEY.out
              omega))
            go_wp2
            go_region_held3 (fun w' => loL 10 w' g (q1 * 10) = cd ∧ okL 10 w' g (q1 * 10) ∧ loL 10 w' g (q * 10) = ce ∧ okL 10 w' g (q * 10)) (first | exact ⟨f1, f2, f4, f5⟩ | exact ⟨x1, x2, x4, x5⟩) ((go_at_call 61; refine (HOC.out _).mono ?_; rintro e w1 ⟨rfl, hb1⟩; have hb2 := (Below.refl wr.heap.size wr).drew.trans hb1; obtain ⟨x1, x2, x3, x4, x5, x6⟩ := (HTWO.out _ (HR3.out.below hgw hb2))))
            have HB2 := Lib.hid hb2
            clear hb1 hb2 f1 f2 f3 f4 f5 f6
            go_wp2
            go_roundw
            case rel =>
              obtain ⟨t', f1, f2, f3⟩ := HF.out _ (HR2.out.below hgw HB2.out)
              exact ⟨k + 1, t', by omega, by have := HSL.out; have := HE1.out; have := HP.out; omega, by rw [HP1.out, HP.out]; go_num, f1, f2, f3, HO2.out.trans (.of_below HB2.out)⟩
            case measure => have := HP1.out; simp [intOf]; omega
    · have hk : k = n ∨ k = n + 1 := by have := HE1.out; omega
      have hpb : ¬ (p : Int) < (b : Int) := by omega
      have ht : s.take k = s ∧ s.drop k = [] := ⟨List.take_of_length_le (by have := HSL.out; omega), List.drop_eq_nil_of_le (by have := HSL.out; omega)⟩
      have HT := Lib.hid ht
      clear ht hk hp
      go_wp2
      go_end0
      have h1 := HM.out
      have h2 := HR.out
      rw [HT.out.1] at h1
      rw [HT.out.2] at h2
      exact ⟨rfl, t, h1, HU.out, by simpa using h2, HO.out⟩
end Go.Proofs.Ytajpggnmhkpbkaa
