/- Contracts: request.May of every request; the reference's Row, mayCoupons, mayTaxes (16). Contract: the reference's mayTaxes (16). -/
import Derived.Test.YtbmphlpmipkpcaaGreatRnm32
import Derived.Test.YtbmphlpmipkpcaaGreatRnm45
import Derived.Test.YtbmphlpmipkpcaaGreatRnm46

section
set_option linter.unusedVariables false
set_option linter.unusedSimpArgs false
namespace Go.Proofs.YtbmphlpmipkpcaaGreat
open Go.RowKit Go.Deep

theorem wst_all {k : Int} : ∀ f ∈ Rq.partsF k, ∀ (w0 : World) (g gq : Nat) (gd : Bool) (y : Rqt) (W : World), WSt w0 g gq gd y W → Calls Tryz.prog f #[.pointer (some ⟨g, 0, none⟩)] W fun e w' => e = .returned (.tuple #[]) ∧ WSt w0 g gq (gd && Rq.partB f y) (Rq.partC f y) w' ∧ Rq.KF W w' := by
  intro f hf w0 g gq gd y W h
  rcases Rq.parts_mem hf with rfl | rfl | rfl | rfl | rfl | rfl | rfl | rfl | rfl | rfl | rfl
  · exact wst_key h
  · exact wst_on h
  · exact wst_locator h
  · exact wst_of h
  · exact wst_coupon h
  · exact wst_status h
  · exact wst_amount h
  · exact wst_journey h
  · exact wst_anew h
  · exact wst_taxes h
  · exact wst_days h
/-- which requests may be: every request -/
theorem rqMayA_any (x : Rqt) (hw : x.wf) (p q : Option Addr) (n cap m cap2 : Nat) (w : World) (hc : LS Cpn.cells 6 w (.slice p n cap) x.cs) (ht : LS Txx.cells 2 w (.slice q m cap2) x.xs) (h1 : x.cs.length ≤ 1073741824) (h2 : x.xs.length ≤ 1073741824) :
    Calls Tryz.prog 22 #[.agg #[.string x.key, .int .i64 x.k, .int .i64 x.d, .int .u64 x.tk, .int .i64 x.c, .int .i64 x.st, .string x.loc, .slice p n cap, .slice q m cap2, .int .i64 x.am, .int .i64 x.fr, .int .i64 x.tt]] w fun e w' => e = .returned (.bool (Rq.mayRq x)) ∧ Below w.heap.size w w' :=
  rqMay_any x hw p q n cap m cap2 w hc ht h1 h2 wst_all
namespace Rq
/-- what a kind names, in letters -/
def rowL (k : Int) : List UInt8 := if k = 1 then [75, 68, 76, 74, 88] else if k = 2 then [75, 68, 84, 78, 83] else if k = 3 then [75, 68, 84] else if k = 4 then [75, 68, 84, 65] else if k = 5 then [75, 68, 84, 65, 67, 88] else if k = 6 then [75, 68, 84, 78] else if k = 7 then [75, 68, 84, 78] else if k = 8 then [84] else if k = 9 then [76] else if k = 10 then [82] else []
theorem rowL_out {k : Int} (h : k < 1 ∨ 10 < k) : rowL k = [] := by
  unfold rowL
  rw [if_neg (by omega), if_neg (by omega), if_neg (by omega), if_neg (by omega), if_neg (by omega), if_neg (by omega), if_neg (by omega), if_neg (by omega), if_neg (by omega), if_neg (by omega)]
/-- taxes in order, behind a code -/
def taxR (D : Int) : List Txx → Bool
  | [] => true
  | t :: r => (decide (D < t.cd) && decide (t.cd ≤ 99) && inB 0 1000000000000 t.am) && taxR t.cd r
theorem taxGo_R : ∀ (l : List Txx) (D : Int), D ≤ 99 → taxGo (D + 1) l = taxR D l
  | [], _, _ => rfl
  | t :: r, D, h => by
    show ((inB (D + 1) 99 t.cd && inB 0 1000000000000 t.am) && taxGo (min t.cd 99 + 1) r) = _
    by_cases h9 : t.cd ≤ 99
    · rw [Int.min_eq_left h9, taxGo_R r t.cd h9]
      have : inB (D + 1) 99 t.cd = (decide (D < t.cd) && decide (t.cd ≤ 99)) := by unfold inB; rw [Bool.eq_iff_iff]; simp; omega
      rw [this]
      rfl
    · have e1 : inB (D + 1) 99 t.cd = false := by unfold inB; rw [decide_eq_false h9]; simp
      show _ = ((decide (D < t.cd) && decide (t.cd ≤ 99) && inB 0 1000000000000 t.am) && taxR t.cd r)
      rw [e1, decide_eq_false h9]
      simp
theorem taxesB_R (l : List Txx) : taxesB l = (taxR 0 l && decide ((l.length : Int) ≤ 4)) := by
  unfold taxesB
  have h := taxGo_R l 0 (by decide)
  rw [show (0 : Int) + 1 = 1 from rfl] at h
  rw [h]
  unfold inB
  rw [decide_eq_true (show (0 : Int) ≤ (l.length : Int) by omega), Bool.true_and, Bool.and_comm]
end Rq
set_option maxRecDepth 8000 in
set_option maxHeartbeats 4000000 in
theorem rRow_any (k : Int) (w : World) : Calls Tryz.prog 69 #[.int .i64 k] w fun e w' => e = .returned (.string ⟨(Rq.rowL k).toArray⟩) ∧ Below w.heap.size w w' := by
  rcases (by omega : k < 1 ∨ 10 < k ∨ (1 ≤ k ∧ k ≤ 10)) with hk | hk | ⟨h1, h2⟩
  · have HE := Lib.hid (Rq.rowL_out (.inl hk))
    go_enter Tryz.func69, Tryz.ntmps69
    go_wp2
    go_ret
    exact ⟨by rw [HE.out]; rfl, (Below.refl _ _).alloc (Nat.le_refl _) _⟩
  · have HE := Lib.hid (Rq.rowL_out (.inr hk))
    have hk1 : ¬ k < 1 := by omega
    go_enter Tryz.func69, Tryz.ntmps69
    go_wp2
    go_ret
    exact ⟨by rw [HE.out]; rfl, (Below.refl _ _).alloc (Nat.le_refl _) _⟩
  · have hk : k = 1 ∨ k = 2 ∨ k = 3 ∨ k = 4 ∨ k = 5 ∨ k = 6 ∨ k = 7 ∨ k = 8 ∨ k = 9 ∨ k = 10 := by omega
    clear h1 h2
    rcases hk with rfl | rfl | rfl | rfl | rfl | rfl | rfl | rfl | rfl | rfl
    all_goals
      go_enter Tryz.func69, Tryz.ntmps69
      go_wp2
      go_ret
      exact ⟨rfl, (Below.refl _ _).alloc (Nat.le_refl _) _⟩
section
attribute [local go_sem ↓] Cp_execLoad Cp_execStore

attribute [local go_sem] Cp_load Cp_store loL_drew okL_drew there_sc World.there_drew

theorem plainC_eq (x : Cpn) : (flyB x.fl x.dy x.va && (x.st == 0 && (x.ho == 0 && x.nx == 0))) = Rq.plainC x := by unfold Rq.plainC; rw [Bool.eq_iff_iff]; simp [and_assoc]
set_option maxRecDepth 8000 in
set_option maxHeartbeats 2000000 in
theorem rmayCp_any (l : List Cpn) (most : Int) (p : Option Addr) (n cap : Nat) (w : World) (hl : LS Cpn.cells 6 w (.slice p n cap) l) : Calls Tryz.prog 127 #[.slice p n cap, .int .i64 most] w fun e w' => e = .returned (.bool (Rq.coupB most l)) ∧ Below w.heap.size w w' := by
  have HLS := Lib.hid hl
  have HNL := Lib.hid hl.length.1
  have hn : n ≤ 9223372036854775807 := by have h1 := hl.length; unfold maxLen at h1; omega
  clear hl
  have HR : Hid (Rq.coupB most l = (inB 1 most (n : Int) && l.all Rq.plainC)) := Lib.hid (by rw [HNL.out]; rfl)
  have HP := Lib.hid (fun (x : Cpn) W => rplain_any x.fl x.dy x.va x.st x.ho x.nx 0 W)
  go_enter Tryz.func127, Tryz.ntmps127
  go_wp2_with fail
  go_loopw [5] (fun i wr => ∃ k : Nat, k ≤ n ∧ i = .int .i64 k ∧ l.all Rq.plainC = (l.drop k).all Rq.plainC ∧ Below w.heap.size w wr) (fun i _ => n - (intOf i).toNat)
  case atStart => exact ⟨0, Nat.zero_le _, rfl, rfl, Below.refl _ _⟩
  case round =>
    obtain ⟨k, hk, rfl, hg, hb⟩ := hrel
    have HB := Lib.hid hb; have HG := Lib.hid hg
    clear hb hg
    by_cases hlt : k < n
    · obtain ⟨y, hy⟩ : ∃ y, l[k]? = some y := ⟨_, List.getElem?_eq_getElem (by have := HNL.out; omega)⟩
      have HDR : Hid (l.drop k = y :: l.drop (k + 1)) := Lib.hid (by
        obtain ⟨h1, h2⟩ := List.getElem?_eq_some_iff.1 hy
        rw [List.drop_eq_getElem_cons h1, h2])
      obtain ⟨eb, ef, hp, hbl, hr⟩ := (HLS.out.below HB.out).at hy
      subst hp
      obtain ⟨f1, f2⟩ := loL_of hr (Cpn.cells_length y)
      have f1' : loL 6 wr eb (ef + k * 6) = [.int .i64 y.fl, .int .i64 y.dy, .int .i64 y.va, .int .i64 y.st, .int .i64 y.ho, .int .u64 y.nx] := f1
      clear f1 hr hy hbl
      have HPY := Lib.hid (HP.out y)
      obtain ⟨q, hq⟩ : ∃ q, Rq.plainC y = q := ⟨_, rfl⟩
      rw [plainC_eq, hq] at HPY
      have HQ := Lib.hid hq
      clear hq
      go_wp2_with fail
      clear f1' f2
      refine (HPY.out _).mono ?_
      rintro e w5 ⟨rfl, hb⟩
      replace HB := Lib.hid (HB.out.trans (hb.mono HB.out.size))
      clear hb
      cases q
      · have HF : Hid (Rq.coupB most l = false) := Lib.hid (by rw [HR.out, HG.out, HDR.out, List.all_cons, HQ.out]; simp)
        go_wp2
        go_ret
        exact ⟨ret_bool HF.out.symm, HB.out⟩
      · go_wp2
        go_roundw
        case rel => exact ⟨k + 1, by omega, by go_num, by rw [HG.out, HDR.out, List.all_cons, HQ.out]; rfl, HB.out⟩
        case measure => simp [intOf]; omega
    · obtain rfl : k = n := by omega
      have HF : Hid (Rq.coupB most l = inB 1 most (k : Int)) := Lib.hid (by rw [HR.out, HG.out, List.drop_of_length_le (by have := HNL.out; omega)]; simp)
      go_wp2
      all_goals
        go_ret
        refine ⟨ret_bool ?_, HB.out⟩
        rw [HF.out]
        unfold inB
        rw [Bool.eq_iff_iff]; simp; omega
end
end Go.Proofs.YtbmphlpmipkpcaaGreat
end

section
set_option linter.unusedVariables false
set_option linter.unusedSimpArgs false
namespace Go.Proofs.YtbmphlpmipkpcaaGreat
open Go.RowKit Go.Deep

set_option maxRecDepth 8000 in
set_option maxHeartbeats 4000000 in
theorem rmayTx_any (l : List Txx) (p : Option Addr) (n cap : Nat) (w : World) (hl : LS Txx.cells 2 w (.slice p n cap) l) : Calls Tryz.prog 128 #[.slice p n cap] w fun e w' => e = .returned (.bool (Rq.taxesB l)) ∧ Below w.heap.size w w' := by
  have HLS := Lib.hid hl
  have HNL := Lib.hid hl.length.1
  have hn : n ≤ 9223372036854775807 := by have h1 := hl.length; unfold maxLen at h1; omega
  clear hl
  have HAM := Lib.hid (fun y W => rsome16_any y W)
  obtain ⟨R, hR⟩ : ∃ R, Rq.taxesB l = R := ⟨_, rfl⟩
  rw [hR]
  have HRV : Hid (R = (Rq.taxR 0 l && decide ((n : Int) ≤ 4))) := Lib.hid (by rw [← hR, Rq.taxesB_R, ← HNL.out])
  clear hR
  go_enter Tryz.func128, Tryz.ntmps128
  go_wp2_with fail
  go_loopw [3] (fun i wr => ∃ (k : Nat) (D : Int), k ≤ n ∧ i = .int .i64 k ∧ R = (Rq.taxR D (l.drop k) && decide ((n : Int) ≤ 4)) ∧ 0 ≤ D ∧ (k = 0 → D = 0) ∧ (∀ (j : Nat) z, k = j + 1 → l[j]? = some z → D = z.cd) ∧ Below w.heap.size w wr) (fun i _ => n - (intOf i).toNat)
  case atStart => exact ⟨0, 0, Nat.zero_le _, rfl, HRV.out, Int.le_refl _, fun _ => rfl, fun j z h => (by cases h), Below.refl _ _⟩
  case round =>
    obtain ⟨k, D, hk, rfl, hg, hdD, h0, hj, hb⟩ := hrel
    have HB := Lib.hid hb; have HG := Lib.hid hg; have HDD := Lib.hid hdD; have H0 := Lib.hid h0; have HJ := Lib.hid hj
    clear hb hg hdD h0 hj
    by_cases hlt : k < n
    · obtain ⟨y, hy⟩ : ∃ y, l[k]? = some y := ⟨_, List.getElem?_eq_getElem (by have := HNL.out; omega)⟩
      have HDR : Hid (l.drop k = y :: l.drop (k + 1)) := Lib.hid (by
        obtain ⟨h1, h2⟩ := List.getElem?_eq_some_iff.1 hy
        rw [List.drop_eq_getElem_cons h1, h2])
      have HY := Lib.hid hy
      obtain ⟨eb, ef, hp, hbl, hr⟩ := (HLS.out.below HB.out).at hy
      subst hp
      have hc : wr.cell? ⟨eb, ef + k * 2, none⟩ = some (.int .i64 y.cd) := hr 0 _ rfl
      have hc1 : wr.cell? ⟨eb, ef + k * 2 + 1, none⟩ = some (.int .i64 y.am) := hr 1 _ rfl
      have HBL := Lib.hid hbl
      clear hr hy hbl
      obtain ⟨q, hq⟩ : ∃ q, inB 0 1000000000000 y.am = q := ⟨_, rfl⟩
      have HAY := Lib.hid (HAM.out y.am)
      rw [hq] at HAY
      have HG2 : Hid (R = (((decide (D < y.cd) && decide (y.cd ≤ 99) && q) && Rq.taxR y.cd (l.drop (k + 1))) && decide ((n : Int) ≤ 4))) := Lib.hid (by rw [HG.out, HDR.out, ← hq]; rfl)
      clear hq
      have HNX : Hid (∀ (j : Nat) z, k + 1 = j + 1 → l[j]? = some z → y.cd = z.cd) := Lib.hid (fun j z h hz => by have hkj : k = j := (by omega); rw [← hkj, HY.out] at hz; rw [Option.some.inj hz])
      have hp : True := trivial
      by_cases h1 : y.cd < 1
      · obtain rfl : R = false := by rw [HG2.out, decide_eq_false (show ¬ D < y.cd by have := HDD.out; omega)]; simp
        go_upto_region 4 with fail
        have hL := @Later.cell
        have hlb : eb < wr.heap.size := HBL.out
        refine wp_region_later (by kernel_rfl) (by kernel_rfl) ?_
        repeat (go_big_quiet_step (first | (go_at_call 126; with_reducible exact later_same (HAY.out _))))
        refine wpQuiet_nil ?_
        rintro wz ⟨u', rfl⟩
        have HB := Lib.hid (HB.out.trans (u'.prop.mono HB.out.size))
        generalize u'.val = w6 at *
        clear hL hc hc1 hlb hp 
        go_wp2
        go_ret
        exact ⟨rfl, HB.out⟩
      · by_cases h2 : 99 < y.cd
        · obtain rfl : R = false := by rw [HG2.out, decide_eq_false (show ¬ y.cd ≤ 99 by omega)]; simp
          go_upto_region 4 with fail
          have hL := @Later.cell
          have hlb : eb < wr.heap.size := HBL.out
          refine wp_region_later (by kernel_rfl) (by kernel_rfl) ?_
          repeat (go_big_quiet_step (first | (go_at_call 126; with_reducible exact later_same (HAY.out _))))
          refine wpQuiet_nil ?_
          rintro wz ⟨u', rfl⟩
          have HB := Lib.hid (HB.out.trans (u'.prop.mono HB.out.size))
          generalize u'.val = w6 at *
          clear hL hc hc1 hlb hp 
          go_wp2
          go_ret
          exact ⟨rfl, HB.out⟩
        · cases k with
          | zero =>
            have hD := H0.out rfl
            subst hD
            have hc00 : wr.cell? ⟨eb, ef, none⟩ = some (.int .i64 y.cd) := by have := hc; simpa using this
            have hc01 : wr.cell? ⟨eb, ef + 1, none⟩ = some (.int .i64 y.am) := by have := hc1; simpa using this
            cases q
            · obtain rfl : R = false := by rw [HG2.out, Bool.and_false]; rfl
              go_upto_region 4 with fail
              have hL := @Later.cell
              have hlb : eb < wr.heap.size := HBL.out
              refine wp_region_later (by kernel_rfl) (by kernel_rfl) ?_
              repeat (go_big_quiet_step (first | (go_at_call 126; with_reducible exact later_same (HAY.out _))))
              refine wpQuiet_nil ?_
              rintro wz ⟨u', rfl⟩
              have HB := Lib.hid (HB.out.trans (u'.prop.mono HB.out.size))
              generalize u'.val = w6 at *
              clear hL hc hc1 hlb hp hc00 hc01
              go_wp2
              go_ret
              exact ⟨rfl, HB.out⟩
            · have HT1 : Hid (decide (0 < y.cd) = true ∧ decide (y.cd ≤ 99) = true) := Lib.hid ⟨decide_eq_true (by omega), decide_eq_true (by omega)⟩
              have HG3 : Hid (R = (Rq.taxR y.cd (l.drop (0 + 1)) && decide ((n : Int) ≤ 4))) := Lib.hid (by rw [HG2.out, HT1.out.1, HT1.out.2]; rfl)
              have HDY : Hid (0 ≤ y.cd) := Lib.hid (by omega)
              go_upto_region 4 with fail
              have hL := @Later.cell
              have hlb : eb < wr.heap.size := HBL.out
              refine wp_region_later (by kernel_rfl) (by kernel_rfl) ?_
              repeat (go_big_quiet_step (first | (go_at_call 126; with_reducible exact later_same (HAY.out _))))
              refine wpQuiet_nil ?_
              rintro wz ⟨u', rfl⟩
              have HB := Lib.hid (HB.out.trans (u'.prop.mono HB.out.size))
              generalize u'.val = w6 at *
              clear hL hc hc1 hlb hp hc00 hc01
              go_wp2
              go_roundw
              case rel => exact ⟨_ + 1, y.cd, by omega, by go_num, HG3.out, HDY.out, fun h => (by omega), HNX.out, HB.out⟩
              case measure => simp [intOf]; omega
          | succ j =>
            obtain ⟨z, hz⟩ : ∃ z, l[j]? = some z := ⟨_, List.getElem?_eq_getElem (by have := HNL.out; omega)⟩
            have hD := HJ.out j z rfl hz
            obtain ⟨eb2, ef2, hp2, -, hr2⟩ := (HLS.out.below HB.out).at hz
            injection hp2 with hp2
            injection hp2 with hp2 hp3 _
            subst hp2 hp3
            have hcz : wr.cell? ⟨eb, ef + j * 2, none⟩ = some (.int .i64 z.cd) := hr2 0 _ rfl
            clear hr2 hz
            have hwr : IntKind.i64.wrap (((j + 1 : Nat) : Int) - 1) = (j : Int) := by rw [IntKind.wrap_i64]; omega
            have hwr2 : IntKind.i64.wrap ((j : Int) + 1 - 1) = (j : Int) := by rw [IntKind.wrap_i64]; omega
            subst hD
            by_cases h3 : y.cd ≤ z.cd
            · obtain rfl : R = false := by rw [HG2.out, decide_eq_false (show ¬ z.cd < y.cd by omega)]; simp
              go_upto_region 4 with fail
              have hL := @Later.cell
              have hlb : eb < wr.heap.size := HBL.out
              refine wp_region_later (by kernel_rfl) (by kernel_rfl) ?_
              repeat (go_big_quiet_step (first | (go_at_call 126; with_reducible exact later_same (HAY.out _))))
              refine wpQuiet_nil ?_
              rintro wz ⟨u', rfl⟩
              have HB := Lib.hid (HB.out.trans (u'.prop.mono HB.out.size))
              generalize u'.val = w6 at *
              clear hL hc hc1 hlb hp hcz
              go_wp2
              go_ret
              exact ⟨rfl, HB.out⟩
            · cases q
              · obtain rfl : R = false := by rw [HG2.out, Bool.and_false]; rfl
                go_upto_region 4 with fail
                have hL := @Later.cell
                have hlb : eb < wr.heap.size := HBL.out
                refine wp_region_later (by kernel_rfl) (by kernel_rfl) ?_
                repeat (go_big_quiet_step (first | (go_at_call 126; with_reducible exact later_same (HAY.out _))))
                refine wpQuiet_nil ?_
                rintro wz ⟨u', rfl⟩
                have HB := Lib.hid (HB.out.trans (u'.prop.mono HB.out.size))
                generalize u'.val = w6 at *
                clear hL hc hc1 hlb hp hcz
                go_wp2
                go_ret
                exact ⟨rfl, HB.out⟩
              · have HT1 : Hid (decide (z.cd < y.cd) = true ∧ decide (y.cd ≤ 99) = true) := Lib.hid ⟨decide_eq_true (by omega), decide_eq_true (by omega)⟩
                have HG3 : Hid (R = (Rq.taxR y.cd (l.drop (j + 1 + 1)) && decide ((n : Int) ≤ 4))) := Lib.hid (by rw [HG2.out, HT1.out.1, HT1.out.2]; rfl)
                have HDY : Hid (0 ≤ y.cd) := Lib.hid (by omega)
                go_upto_region 4 with fail
                have hL := @Later.cell
                have hlb : eb < wr.heap.size := HBL.out
                refine wp_region_later (by kernel_rfl) (by kernel_rfl) ?_
                repeat (go_big_quiet_step (first | (go_at_call 126; with_reducible exact later_same (HAY.out _))))
                refine wpQuiet_nil ?_
                rintro wz ⟨u', rfl⟩
                have HB := Lib.hid (HB.out.trans (u'.prop.mono HB.out.size))
                generalize u'.val = w6 at *
                clear hL hc hc1 hlb hp hcz
                go_wp2
                go_roundw
                case rel => exact ⟨_ + 1, y.cd, by omega, by go_num, HG3.out, HDY.out, fun h => (by omega), HNX.out, HB.out⟩
                case measure => simp [intOf]; omega
    · obtain rfl : k = n := by omega
      have HGE : Hid (R = decide ((k : Int) ≤ 4)) := Lib.hid (by rw [HG.out, List.drop_of_length_le (by have := HNL.out; omega)]; rfl)
      go_wp2
      go_ret
      exact ⟨ret_bool HGE.out.symm, HB.out⟩
end Go.Proofs.YtbmphlpmipkpcaaGreat
end
