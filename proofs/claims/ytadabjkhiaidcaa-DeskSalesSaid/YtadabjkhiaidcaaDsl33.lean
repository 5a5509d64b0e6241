/- Contracts of the reference 15: Flights, On, Taxes. -/
import Derived.Test.YtadabjkhiaidcaaDsl32

set_option linter.unusedVariables false
set_option linter.unusedSimpArgs false
namespace Go.Proofs.Ytadabjkhiaidcaa
open Go.ChangeShapes Go.WideShapes Go.ChangeAt Go.RowKit Go.Deep

theorem Dk.soldB_eq {y : Cpn} {q1 q2 q3 q4 q5 q6 q7 : Bool} (h1 : Tkt.dayB y.dy = q1) (h2 : Tkt.someB y.va = q2) (h3 : decide (y.st = 0) = q3) (h4 : decide (y.ho = 0) = q4) (h5 : decide (y.nx = 0) = q5) (h6 : decide (y.fl < 1) = q6) (h7 : decide (9999 < y.fl) = q7) : Dk.soldB y = ((q3 && q4 && q5) && !q6 && !q7 && q1 && q2) := by
  have e6 : decide (1 ≤ y.fl) = !q6 := by rw [← h6, Bool.eq_iff_iff]; simp
  have e7 : decide (y.fl ≤ 9999) = !q7 := by rw [← h7, Bool.eq_iff_iff]; simp
  unfold Dk.soldB
  rw [h1, h2, h3, h4, h5, e6, e7]
attribute [local go_sem ↓] Tk_execLoad Tk_execStore Cp_execLoad Cp_execStore Tx_execLoad Tx_execStore

attribute [local go_sem] Tk_load Tk_store Cp_load Cp_store Tx_load Tx_store loL_drew okL_drew there_sc World.there_drew

attribute [local irreducible] Dk.soldB Dk.rowB

set_option maxRecDepth 4000 in
set_option maxHeartbeats 4000000 in
theorem rflights_any (l : List Cpn) (p : Option Addr) (n cap : Nat) (most : Int) (w : World) (hl : LS Cpn.cells 6 w (.slice p n cap) l) : Calls Try.prog 31 #[.slice p n cap, .int .i64 most] w fun e w' => e = .returned (.bool (Dk.rowB l most)) ∧ Below w.heap.size w w' := by
  have HLS := Lib.hid hl
  have HNL := Lib.hid hl.length.1
  have hn : n ≤ 9223372036854775807 := by have h1 := hl.length; unfold maxLen at h1; omega
  clear hl
  have HDA := Lib.hid (fun y W => rday15_any y W)
  have HAM := Lib.hid (fun y W => ramount_any y W)
  obtain ⟨R, hR⟩ : ∃ R, Dk.rowB l most = R := ⟨_, rfl⟩
  rw [hR]
  have HRV := Lib.hid hR
  clear hR
  go_enter Try.func31, Try.ntmps31
  go_wp2_with fail
  go_loopw [5] (fun i wr => ∃ k : Nat, k ≤ n ∧ i = .int .i64 k ∧ (l.take k).all Dk.soldB = true ∧ Below w.heap.size w wr) (fun i _ => n - (intOf i).toNat)
  case atStart => exact ⟨0, Nat.zero_le _, rfl, rfl, Below.refl _ _⟩
  case round =>
    obtain ⟨k, hk, rfl, hall, hb⟩ := hrel
    have HB := Lib.hid hb; have HALL := Lib.hid hall
    clear hb hall
    by_cases hlt : k < n
    · obtain ⟨y, hy⟩ : ∃ y, l[k]? = some y := ⟨_, List.getElem?_eq_getElem (by have := HNL.out; omega)⟩
      have HY := Lib.hid hy
      obtain ⟨eb, ef, hp, -, hr⟩ := (HLS.out.below HB.out).at hy
      subst hp
      obtain ⟨g1, g2⟩ := loL_of hr (Cpn.cells_length y)
      have g3 : y.cells = [.int .i64 y.fl, .int .i64 y.dy, .int .i64 y.va, .int .i64 y.st, .int .i64 y.ho, .int .u64 y.nx] := rfl
      rw [g3] at g1
      clear g3 hr hy
      have tc := there_newT (w := wr) (zs := [.int .i64 0, .int .i64 0, .int .i64 0, .int .i64 0, .int .i64 0, .int .u64 0]) (e := 37) (n := 6) rfl
      have c6n : ([.int .i64 y.fl, .int .i64 y.dy, .int .i64 y.va, .int .i64 y.st, .int .i64 y.ho, .int .u64 y.nx] : List Value).length = 6 := rfl
      have c6c : ([.int .i64 y.fl, .int .i64 y.dy, .int .i64 y.va, .int .i64 y.st, .int .i64 y.ho, .int .u64 y.nx] : List Value).all (·.oneCell') = true := rfl
      go_upto_region 5 with fail
      have HP := Lib.hid (putRec (W := wr) (e := 37) (zs := [.int .i64 0, .int .i64 0, .int .i64 0, .int .i64 0, .int .i64 0, .int .u64 0]) (cs := [.int .i64 y.fl, .int .i64 y.dy, .int .i64 y.va, .int .i64 y.st, .int .i64 y.ho, .int .u64 y.nx]) rfl)
      have HB := Lib.hid (HB.out.trans (HP.out.2.mono HB.out.size))
      have HRC := Lib.hid HP.out.1
      clear HP tc c6n c6c g1 g2
      generalize (wr.alloc (.cells #[.int .i64 0, .int .i64 0, .int .i64 0, .int .i64 0, .int .i64 0, .int .u64 0] 37 (0, 0))).setCells wr.heap.size 0 [.int .i64 y.fl, .int .i64 y.dy, .int .i64 y.va, .int .i64 y.st, .int .i64 y.ho, .int .u64 y.nx] = w4 at *
      generalize wr.heap.size = gc at *
      have kc := fun j => cell_of_row w4 gc j _ _ _ HRC.out
      obtain ⟨s, hs⟩ : ∃ s, Dk.soldB y = s := ⟨_, rfl⟩
      have HS := Lib.hid hs
      clear hs
      obtain ⟨q1, hq1⟩ : ∃ q, Tkt.dayB y.dy = q := ⟨_, rfl⟩
      obtain ⟨q2, hq2⟩ : ∃ q, Tkt.someB y.va = q := ⟨_, rfl⟩
      obtain ⟨q3, hq3⟩ : ∃ q, decide (y.st = 0) = q := ⟨_, rfl⟩
      obtain ⟨q4, hq4⟩ : ∃ q, decide (y.ho = 0) = q := ⟨_, rfl⟩
      obtain ⟨q5, hq5⟩ : ∃ q, decide (y.nx = 0) = q := ⟨_, rfl⟩
      obtain ⟨q6, hq6⟩ : ∃ q, decide (y.fl < 1) = q := ⟨_, rfl⟩
      obtain ⟨q7, hq7⟩ : ∃ q, decide (9999 < y.fl) = q := ⟨_, rfl⟩
      have HSV : Hid (s = ((q3 && q4 && q5) && !q6 && !q7 && q1 && q2)) := Lib.hid (by rw [← HS.out]; exact Dk.soldB_eq hq1 hq2 hq3 hq4 hq5 hq6 hq7)
      have HD1 := Lib.hid (HDA.out y.dy)
      have HA1 := Lib.hid (HAM.out y.va)
      rw [hq1] at HD1
      rw [hq2] at HA1
      have e3 : (y.st != 0) = !q3 := by rw [← hq3]; rfl
      have e4 : (y.ho != 0) = !q4 := by rw [← hq4]; rfl
      have e5 : (y.nx != 0) = !q5 := by rw [← hq5]; rfl
      clear hq1 hq2 hq3 hq4 hq5
      go_cut [51] (fun cv wx => cv = .bool (!s) ∧ wx = w4)
      case first =>
        cases q6
        · cases q7
          · cases q1
            · go_wp2_with (first | (go_at_call 35; refine (HD1.out _).mono ?_; rintro e wn ⟨rfl, rfl⟩) | (go_at_call 64; refine (HA1.out _).mono ?_; rintro e wn ⟨rfl, rfl⟩))
              all_goals go_meet
              all_goals exact ⟨by rw [HSV.out]; (first | rfl | simp), rfl⟩
            · cases q2
              · go_wp2_with (first | (go_at_call 35; refine (HD1.out _).mono ?_; rintro e wn ⟨rfl, rfl⟩) | (go_at_call 64; refine (HA1.out _).mono ?_; rintro e wn ⟨rfl, rfl⟩))
                all_goals go_meet
                all_goals exact ⟨by rw [HSV.out]; (first | rfl | simp), rfl⟩
              · cases q3
                · go_wp2_with (first | (go_at_call 35; refine (HD1.out _).mono ?_; rintro e wn ⟨rfl, rfl⟩) | (go_at_call 64; refine (HA1.out _).mono ?_; rintro e wn ⟨rfl, rfl⟩))
                  all_goals go_meet
                  all_goals exact ⟨by rw [HSV.out]; (first | rfl | simp), rfl⟩
                · cases q4
                  · go_wp2_with (first | (go_at_call 35; refine (HD1.out _).mono ?_; rintro e wn ⟨rfl, rfl⟩) | (go_at_call 64; refine (HA1.out _).mono ?_; rintro e wn ⟨rfl, rfl⟩))
                    all_goals go_meet
                    all_goals exact ⟨by rw [HSV.out]; (first | rfl | simp), rfl⟩
                  · cases q5
                    · go_wp2_with (first | (go_at_call 35; refine (HD1.out _).mono ?_; rintro e wn ⟨rfl, rfl⟩) | (go_at_call 64; refine (HA1.out _).mono ?_; rintro e wn ⟨rfl, rfl⟩))
                      all_goals go_meet
                      all_goals exact ⟨by rw [HSV.out]; (first | rfl | simp), rfl⟩
                    · go_wp2_with (first | (go_at_call 35; refine (HD1.out _).mono ?_; rintro e wn ⟨rfl, rfl⟩) | (go_at_call 64; refine (HA1.out _).mono ?_; rintro e wn ⟨rfl, rfl⟩))
                      all_goals go_meet
                      all_goals exact ⟨by rw [HSV.out]; (first | rfl | simp), rfl⟩
          · go_wp2_with (first | (go_at_call 35; refine (HD1.out _).mono ?_; rintro e wn ⟨rfl, rfl⟩) | (go_at_call 64; refine (HA1.out _).mono ?_; rintro e wn ⟨rfl, rfl⟩))
            all_goals go_meet
            all_goals exact ⟨by rw [HSV.out]; (first | rfl | simp), rfl⟩
        · go_wp2_with (first | (go_at_call 35; refine (HD1.out _).mono ?_; rintro e wn ⟨rfl, rfl⟩) | (go_at_call 64; refine (HA1.out _).mono ?_; rintro e wn ⟨rfl, rfl⟩))
          all_goals go_meet
          all_goals exact ⟨by rw [HSV.out]; (first | rfl | simp), rfl⟩
      case rest =>
        obtain ⟨rfl, hwx⟩ := hcut
        have hwx2 := hwx.symm
        clear hwx
        subst hwx2
        clear kc e3 e4 e5 hq6 hq7
        cases s
        · have HR0 : Hid (R = false) := Lib.hid (by rw [← HRV.out]; exact Dk.rowB_bad (List.mem_of_getElem? HY.out) HS.out)
          obtain rfl : R = false := HR0.out
          go_wp2
          go_ret
          exact ⟨rfl, HB.out⟩
        · go_wp2
          go_roundw
          case rel => exact ⟨k + 1, by omega, by go_num, by rw [Tkt.take_snocT HY.out, List.all_append, HALL.out]; simp [HS.out], HB.out⟩
          case measure => simp [intOf]; omega
    · obtain rfl : k = n := by omega
      have hlen : l.take k = l := List.take_of_length_le (by have := HNL.out; omega)
      rw [hlen] at HALL
      clear hlen
      have HRW : Hid (R = (decide (1 ≤ (k : Int)) && decide ((k : Int) ≤ most))) := Lib.hid (by rw [← HRV.out]; unfold Dk.rowB; rw [HALL.out, ← HNL.out]; rfl)
      by_cases h1 : 1 ≤ (k : Int)
      · by_cases h2 : (k : Int) ≤ most
        · obtain rfl : R = true := by rw [HRW.out]; rw [decide_eq_true h1, decide_eq_true h2]; rfl
          go_wp2
          go_ret
          exact ⟨rfl, HB.out⟩
        · obtain rfl : R = false := by rw [HRW.out]; rw [decide_eq_false h2, Bool.and_false]
          go_wp2
          go_ret
          exact ⟨rfl, HB.out⟩
      · obtain rfl : R = false := by rw [HRW.out]; rw [decide_eq_false h1, Bool.false_and]
        go_wp2
        go_ret
        exact ⟨rfl, HB.out⟩


set_option maxRecDepth 4000 in
set_option maxHeartbeats 4000000 in
theorem ron_any (l : List Cpn) (p : Option Addr) (n cap : Nat) (d : Int) (w : World) (hl : LS Cpn.cells 6 w (.slice p n cap) l) : Calls Try.prog 36 #[.slice p n cap, .int .i64 d] w fun e w' => e = .returned (.bool (Dk.goesB l d)) ∧ Below w.heap.size w w' := by
  have HLS := Lib.hid hl
  have HNL := Lib.hid hl.length.1
  have hn : n ≤ 9223372036854775807 := by have h1 := hl.length; unfold maxLen at h1; omega
  clear hl
  obtain ⟨R, hR⟩ : ∃ R, Dk.goesB l d = R := ⟨_, rfl⟩
  rw [hR]
  have HRV := Lib.hid hR
  clear hR
  go_enter Try.func36, Try.ntmps36
  go_wp2_with fail
  go_loopw [5] (fun i wr => ∃ (k : Nat) (D : Int), k ≤ n ∧ i = .int .i64 k ∧ R = Dk.goesB (l.drop k) D ∧ d ≤ D ∧ (k = 0 → D = d) ∧ (∀ (j : Nat) z, k = j + 1 → l[j]? = some z → D = z.dy) ∧ Below w.heap.size w wr) (fun i _ => n - (intOf i).toNat)
  case atStart => exact ⟨0, d, Nat.zero_le _, rfl, HRV.out.symm, Int.le_refl _, fun _ => rfl, fun j z h => (by cases h), Below.refl _ _⟩
  case round =>
    obtain ⟨k, D, hk, rfl, hg, hdD, h0, hj, hb⟩ := hrel
    have HB := Lib.hid hb; have HG := Lib.hid hg; have HDD := Lib.hid hdD; have H0 := Lib.hid h0; have HJ := Lib.hid hj
    clear hb hg hdD h0 hj
    by_cases hlt : k < n
    · obtain ⟨y, hy⟩ : ∃ y, l[k]? = some y := ⟨_, List.getElem?_eq_getElem (by have := HNL.out; omega)⟩
      have HY := Lib.hid hy
      obtain ⟨eb, ef, hp, hbl, hr⟩ := (HLS.out.below HB.out).at hy
      subst hp
      have hc : wr.cell? ⟨eb, ef + k * 6 + 1, none⟩ = some (.int .i64 y.dy) := hr 1 _ rfl
      have HBL := Lib.hid hbl
      clear hr hy hbl
      have HG2 : Hid (R = (decide (D ≤ y.dy) && Dk.goesB (l.drop (k + 1)) y.dy)) := Lib.hid (by rw [HG.out, Dk.drop_at HY.out]; rfl)
      have HNX : Hid (∀ (j : Nat) z, k + 1 = j + 1 → l[j]? = some z → y.dy = z.dy) := Lib.hid (fun j z h hz => by have hkj : k = j := (by omega); rw [← hkj, HY.out] at hz; rw [Option.some.inj hz])
      obtain ⟨pv, hp⟩ : ∃ pv : Int, (0 < k → ∀ z, l[k - 1]? = some z → pv = z.dy) := ⟨(l[k - 1]?.getD y).dy, fun _ z hz => by rw [hz]; rfl⟩
      clear hp pv
      have hp : True := trivial
      by_cases h1 : y.dy < d
      · obtain rfl : R = false := by rw [HG2.out, decide_eq_false (show ¬ D ≤ y.dy by have := HDD.out; omega)]; rfl
        go_upto_region 4 with fail
        have hL := @Later.cell
        have hlb : eb < wr.heap.size := HBL.out
        refine wp_region_later (by kernel_rfl) (by kernel_rfl) ?_
        repeat (go_big_quiet_step (fail))
        refine wpQuiet_nil ?_
        rintro wz ⟨u', rfl⟩
        have HB := Lib.hid (HB.out.trans (u'.prop.mono HB.out.size))
        generalize u'.val = w6 at *
        clear hL hc hlb hp
        go_wp2
        go_ret
        exact ⟨rfl, HB.out⟩
      · cases k with
        | zero =>
          have hD := H0.out rfl
          have HG3 : Hid (R = Dk.goesB (l.drop (0 + 1)) y.dy) := Lib.hid (by rw [HG2.out, decide_eq_true (show D ≤ y.dy by omega)]; rfl)
          have HDY : Hid (d ≤ y.dy) := Lib.hid (by omega)
          go_upto_region 4 with fail
          have hL := @Later.cell
          have hlb : eb < wr.heap.size := HBL.out
          refine wp_region_later (by kernel_rfl) (by kernel_rfl) ?_
          repeat (go_big_quiet_step (fail))
          refine wpQuiet_nil ?_
          rintro wz ⟨u', rfl⟩
          have HB := Lib.hid (HB.out.trans (u'.prop.mono HB.out.size))
          generalize u'.val = w6 at *
          clear hL hc hlb hp
          go_wp2
          go_roundw
          case rel => exact ⟨_ + 1, y.dy, by omega, by go_num, HG3.out, HDY.out, fun h => (by omega), HNX.out, HB.out⟩
          case measure => simp [intOf]; omega
        | succ j =>
          obtain ⟨z, hz⟩ : ∃ z, l[j]? = some z := ⟨_, List.getElem?_eq_getElem (by have := HNL.out; omega)⟩
          have hD := HJ.out j z rfl hz
          obtain ⟨eb2, ef2, hp2, -, hr2⟩ := (HLS.out.below HB.out).at hz
          injection hp2 with hp2
          injection hp2 with hp2 hp3 _
          subst hp2 hp3
          have hcz : wr.cell? ⟨eb, ef + j * 6 + 1, none⟩ = some (.int .i64 z.dy) := hr2 1 _ rfl
          clear hr2 hz
          have hwr : IntKind.i64.wrap (((j + 1 : Nat) : Int) - 1) = (j : Int) := by rw [IntKind.wrap_i64]; omega
          have hwr2 : IntKind.i64.wrap ((j : Int) + 1 - 1) = (j : Int) := by rw [IntKind.wrap_i64]; omega
          subst hD
          by_cases h2 : y.dy < z.dy
          · obtain rfl : R = false := by rw [HG2.out, decide_eq_false (show ¬ z.dy ≤ y.dy by omega)]; rfl
            go_upto_region 4 with fail
            have hL := @Later.cell
            have hlb : eb < wr.heap.size := HBL.out
            refine wp_region_later (by kernel_rfl) (by kernel_rfl) ?_
            repeat (go_big_quiet_step (fail))
            refine wpQuiet_nil ?_
            rintro wz ⟨u', rfl⟩
            have HB := Lib.hid (HB.out.trans (u'.prop.mono HB.out.size))
            generalize u'.val = w6 at *
            clear hL hc hcz hlb hp
            go_wp2
            go_ret
            exact ⟨rfl, HB.out⟩
          · have HG3 : Hid (R = Dk.goesB (l.drop (j + 1 + 1)) y.dy) := Lib.hid (by rw [HG2.out, decide_eq_true (show z.dy ≤ y.dy by omega)]; rfl)
            have HDY : Hid (d ≤ y.dy) := Lib.hid (by omega)
            go_upto_region 4 with fail
            have hL := @Later.cell
            have hlb : eb < wr.heap.size := HBL.out
            refine wp_region_later (by kernel_rfl) (by kernel_rfl) ?_
            repeat (go_big_quiet_step (fail))
            refine wpQuiet_nil ?_
            rintro wz ⟨u', rfl⟩
            have HB := Lib.hid (HB.out.trans (u'.prop.mono HB.out.size))
            generalize u'.val = w6 at *
            clear hL hc hcz hlb hp
            go_wp2
            go_roundw
            case rel => exact ⟨_ + 1, y.dy, by omega, by go_num, HG3.out, HDY.out, fun h => (by omega), HNX.out, HB.out⟩
            case measure => simp [intOf]; omega
    · obtain rfl : k = n := by omega
      obtain rfl : R = true := by rw [HG.out, List.drop_of_length_le (by have := HNL.out; omega)]; rfl
      go_wp2
      go_ret
      exact ⟨rfl, HB.out⟩


set_option maxRecDepth 4000 in
set_option maxHeartbeats 4000000 in
theorem rtaxes15_any (l : List Txx) (p : Option Addr) (n cap : Nat) (w : World) (hl : LS Txx.cells 2 w (.slice p n cap) l) : Calls Try.prog 32 #[.slice p n cap] w fun e w' => e = .returned (.bool (Dk.taxedB l)) ∧ Below w.heap.size w w' := by
  have HLS := Lib.hid hl
  have HNL := Lib.hid hl.length.1
  have hn : n ≤ 9223372036854775807 := by have h1 := hl.length; unfold maxLen at h1; omega
  clear hl
  have HAM := Lib.hid (fun y W => ramount_any y W)
  obtain ⟨R, hR⟩ : ∃ R, Dk.taxedB l = R := ⟨_, rfl⟩
  rw [hR]
  have HRV : Hid (R = (Dk.taxB 0 l && decide ((n : Int) ≤ 4))) := Lib.hid (by rw [← hR]; unfold Dk.taxedB; rw [← HNL.out])
  clear hR
  go_enter Try.func32, Try.ntmps32
  go_wp2_with fail
  go_loopw [3] (fun i wr => ∃ (k : Nat) (D : Int), k ≤ n ∧ i = .int .i64 k ∧ R = (Dk.taxB D (l.drop k) && decide ((n : Int) ≤ 4)) ∧ 0 ≤ D ∧ (k = 0 → D = 0) ∧ (∀ (j : Nat) z, k = j + 1 → l[j]? = some z → D = z.cd) ∧ Below w.heap.size w wr) (fun i _ => n - (intOf i).toNat)
  case atStart => exact ⟨0, 0, Nat.zero_le _, rfl, HRV.out, Int.le_refl _, fun _ => rfl, fun j z h => (by cases h), Below.refl _ _⟩
  case round =>
    obtain ⟨k, D, hk, rfl, hg, hdD, h0, hj, hb⟩ := hrel
    have HB := Lib.hid hb; have HG := Lib.hid hg; have HDD := Lib.hid hdD; have H0 := Lib.hid h0; have HJ := Lib.hid hj
    clear hb hg hdD h0 hj
    by_cases hlt : k < n
    · obtain ⟨y, hy⟩ : ∃ y, l[k]? = some y := ⟨_, List.getElem?_eq_getElem (by have := HNL.out; omega)⟩
      have HY := Lib.hid hy
      obtain ⟨eb, ef, hp, hbl, hr⟩ := (HLS.out.below HB.out).at hy
      subst hp
      have hc : wr.cell? ⟨eb, ef + k * 2, none⟩ = some (.int .i64 y.cd) := hr 0 _ rfl
      have hc1 : wr.cell? ⟨eb, ef + k * 2 + 1, none⟩ = some (.int .i64 y.am) := hr 1 _ rfl
      have HBL := Lib.hid hbl
      clear hr hy hbl
      obtain ⟨q, hq⟩ : ∃ q, Tkt.someB y.am = q := ⟨_, rfl⟩
      have HAY := Lib.hid (HAM.out y.am)
      rw [hq] at HAY
      have HG2 : Hid (R = (((decide (D < y.cd) && decide (y.cd ≤ 99) && q) && Dk.taxB y.cd (l.drop (k + 1))) && decide ((n : Int) ≤ 4))) := Lib.hid (by rw [HG.out, Dk.drop_at HY.out, ← hq]; rfl)
      clear hq
      have HNX : Hid (∀ (j : Nat) z, k + 1 = j + 1 → l[j]? = some z → y.cd = z.cd) := Lib.hid (fun j z h hz => by have hkj : k = j := (by omega); rw [← hkj, HY.out] at hz; rw [Option.some.inj hz])
      have hp : True := trivial
      by_cases h1 : y.cd < 1
      · obtain rfl : R = false := by rw [HG2.out, decide_eq_false (show ¬ D < y.cd by have := HDD.out; omega)]; simp
        go_upto_region 4 with fail
        have hL := @Later.cell
        have hlb : eb < wr.heap.size := HBL.out
        refine wp_region_later (by kernel_rfl) (by kernel_rfl) ?_
        repeat (go_big_quiet_step (first | (go_at_call 64; with_reducible exact later_same (HAY.out _))))
        refine wpQuiet_nil ?_
        rintro wz ⟨u', rfl⟩
        have HB := Lib.hid (HB.out.trans (u'.prop.mono HB.out.size))
        generalize u'.val = w6 at *
        clear hL hc hc1 hlb hp
        go_wp2
        go_ret
        exact ⟨rfl, HB.out⟩
      · by_cases h2 : 99 < y.cd
        · obtain rfl : R = false := by rw [HG2.out, decide_eq_false (show ¬ y.cd ≤ 99 by omega)]; simp
          go_upto_region 4 with fail
          have hL := @Later.cell
          have hlb : eb < wr.heap.size := HBL.out
          refine wp_region_later (by kernel_rfl) (by kernel_rfl) ?_
          repeat (go_big_quiet_step (first | (go_at_call 64; with_reducible exact later_same (HAY.out _))))
          refine wpQuiet_nil ?_
          rintro wz ⟨u', rfl⟩
          have HB := Lib.hid (HB.out.trans (u'.prop.mono HB.out.size))
          generalize u'.val = w6 at *
          clear hL hc hc1 hlb hp
          go_wp2
          go_ret
          exact ⟨rfl, HB.out⟩
        · cases q
          · obtain rfl : R = false := by rw [HG2.out, Bool.and_false]; rfl
            go_upto_region 4 with fail
            have hL := @Later.cell
            have hlb : eb < wr.heap.size := HBL.out
            refine wp_region_later (by kernel_rfl) (by kernel_rfl) ?_
            repeat (go_big_quiet_step (first | (go_at_call 64; with_reducible exact later_same (HAY.out _))))
            refine wpQuiet_nil ?_
            rintro wz ⟨u', rfl⟩
            have HB := Lib.hid (HB.out.trans (u'.prop.mono HB.out.size))
            generalize u'.val = w6 at *
            clear hL hc hc1 hlb hp
            go_wp2
            go_ret
            exact ⟨rfl, HB.out⟩
          · cases k with
            | zero =>
              have hD := H0.out rfl
              subst hD
              have hc00 : wr.cell? ⟨eb, ef, none⟩ = some (.int .i64 y.cd) := by have := hc; simpa using this
              have hc01 : wr.cell? ⟨eb, ef + 1, none⟩ = some (.int .i64 y.am) := by have := hc1; simpa using this
              have HT1 : Hid (decide (0 < y.cd) = true ∧ decide (y.cd ≤ 99) = true) := Lib.hid ⟨decide_eq_true (by omega), decide_eq_true (by omega)⟩
              have HG3 : Hid (R = (Dk.taxB y.cd (l.drop (0 + 1)) && decide ((n : Int) ≤ 4))) := Lib.hid (by rw [HG2.out, HT1.out.1, HT1.out.2]; rfl)
              have HDY : Hid (0 ≤ y.cd) := Lib.hid (by omega)
              go_upto_region 4 with fail
              have hL := @Later.cell
              have hlb : eb < wr.heap.size := HBL.out
              refine wp_region_later (by kernel_rfl) (by kernel_rfl) ?_
              repeat (go_big_quiet_step (first | (go_at_call 64; with_reducible exact later_same (HAY.out _))))
              refine wpQuiet_nil ?_
              rintro wz ⟨u', rfl⟩
              have HB := Lib.hid (HB.out.trans (u'.prop.mono HB.out.size))
              generalize u'.val = w6 at *
              clear hL hc hc1 hlb hp hc00 hc01
              go_wp2
              go_roundw
              case rel => exact ⟨_ + 1, y.cd, by omega, by go_num, HG3.out, HDY.out, fun h => (by omega), HNX.out, HB.out⟩
              case measure => simp [intOf]; omega
            | succ j =>
              obtain ⟨z, hz⟩ : ∃ z, l[j]? = some z := ⟨_, List.getElem?_eq_getElem (by have := HNL.out; omega)⟩
              have hD := HJ.out j z rfl hz
              obtain ⟨eb2, ef2, hp2, -, hr2⟩ := (HLS.out.below HB.out).at hz
              injection hp2 with hp2
              injection hp2 with hp2 hp3 _
              subst hp2 hp3
              have hcz : wr.cell? ⟨eb, ef + j * 2, none⟩ = some (.int .i64 z.cd) := hr2 0 _ rfl
              clear hr2 hz
              have hwr : IntKind.i64.wrap (((j + 1 : Nat) : Int) - 1) = (j : Int) := by rw [IntKind.wrap_i64]; omega
              have hwr2 : IntKind.i64.wrap ((j : Int) + 1 - 1) = (j : Int) := by rw [IntKind.wrap_i64]; omega
              subst hD
              by_cases h3 : y.cd ≤ z.cd
              · obtain rfl : R = false := by rw [HG2.out, decide_eq_false (show ¬ z.cd < y.cd by omega)]; simp
                go_upto_region 4 with fail
                have hL := @Later.cell
                have hlb : eb < wr.heap.size := HBL.out
                refine wp_region_later (by kernel_rfl) (by kernel_rfl) ?_
                repeat (go_big_quiet_step (first | (go_at_call 64; with_reducible exact later_same (HAY.out _))))
                refine wpQuiet_nil ?_
                rintro wz ⟨u', rfl⟩
                have HB := Lib.hid (HB.out.trans (u'.prop.mono HB.out.size))
                generalize u'.val = w6 at *
                clear hL hc hc1 hlb hp hcz
                go_wp2
                go_ret
                exact ⟨rfl, HB.out⟩
              · have HT1 : Hid (decide (z.cd < y.cd) = true ∧ decide (y.cd ≤ 99) = true) := Lib.hid ⟨decide_eq_true (by omega), decide_eq_true (by omega)⟩
                have HG3 : Hid (R = (Dk.taxB y.cd (l.drop (j + 1 + 1)) && decide ((n : Int) ≤ 4))) := Lib.hid (by rw [HG2.out, HT1.out.1, HT1.out.2]; rfl)
                have HDY : Hid (0 ≤ y.cd) := Lib.hid (by omega)
                go_upto_region 4 with fail
                have hL := @Later.cell
                have hlb : eb < wr.heap.size := HBL.out
                refine wp_region_later (by kernel_rfl) (by kernel_rfl) ?_
                repeat (go_big_quiet_step (first | (go_at_call 64; with_reducible exact later_same (HAY.out _))))
                refine wpQuiet_nil ?_
                rintro wz ⟨u', rfl⟩
                have HB := Lib.hid (HB.out.trans (u'.prop.mono HB.out.size))
                generalize u'.val = w6 at *
                clear hL hc hc1 hlb hp hcz
                go_wp2
                go_roundw
                case rel => exact ⟨_ + 1, y.cd, by omega, by go_num, HG3.out, HDY.out, fun h => (by omega), HNX.out, HB.out⟩
                case measure => simp [intOf]; omega
    · obtain rfl : k = n := by omega
      have HGE : Hid (R = decide ((k : Int) ≤ 4)) := Lib.hid (by rw [HG.out, List.drop_of_length_le (by have := HNL.out; omega)]; rfl)
      go_wp2
      go_ret
      exact ⟨ret_bool HGE.out.symm, HB.out⟩

end Go.Proofs.Ytadabjkhiaidcaa
