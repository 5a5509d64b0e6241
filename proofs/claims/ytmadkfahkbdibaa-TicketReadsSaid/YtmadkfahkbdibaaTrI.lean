/- Contract: may a ticket be (the reference's May, 13). -/
import Derived.Test.YtmadkfahkbdibaaTrH
set_option linter.unusedVariables false
set_option linter.unusedSimpArgs false
namespace Go.Proofs.Ytmadkfahkbdibaa
open Go.RowKit

attribute [local go_sem ↓] Tk_execLoad
attribute [local go_sem] Tk_load loL_drew okL_drew
set_option maxRecDepth 8000 in
set_option maxHeartbeats 16000000 in
theorem rmay_any (t : Tk) (c x h : Sl) (w : World) (ts : TS w t c x h) : Calls Try.prog 18 #[.agg #[.int .u64 t.num, .string t.loc, .int .i64 t.iss, .slice c.p c.n c.c, .slice x.p x.n x.c, .int .u64 t.prev, .int .u64 t.org, .int .u64 t.fst, .int .i64 t.vou, .int .i64 t.posts, .slice h.p h.n h.c]] w fun e w' => e = .returned (.bool (Tkt.mayB t)) ∧ Below w.heap.size w w' := by
  obtain ⟨p1, n1, z1⟩ := c
  obtain ⟨p2, n2, z2⟩ := x
  obtain ⟨p3, n3, z3⟩ := h
  simp only at *
  have HTS := Lib.hid ts
  have HN1 : Hid (n1 = t.cs.length) := Lib.hid ts.cs.length.1
  have HN2 : Hid (n2 = t.ts.length) := Lib.hid ts.ts.length.1
  have HN3 : Hid (n3 = t.hs.length) := Lib.hid ts.hs.length.1
  have hm1 : n1 ≤ 9223372036854775807 := by have h1 := ts.cs.length.2.1; have h2 := ts.cs.length.2.2; unfold maxLen at h2; simp only at h1 h2; omega
  have hm2 : n2 ≤ 9223372036854775807 := by have h1 := ts.ts.length.2.1; have h2 := ts.ts.length.2.2; unfold maxLen at h2; simp only at h1 h2; omega
  have hm3 : n3 ≤ 9223372036854775807 := by have h1 := ts.hs.length.2.1; have h2 := ts.hs.length.2.2; unfold maxLen at h2; simp only at h1 h2; omega
  have HWF := Lib.hid ts.wf
  have HB := Lib.hid ((Below.refl w.heap.size w).alloc (Nat.le_refl _) (.cells #[.int .u64 t.num, .string t.loc, .int .i64 t.iss, .slice p1 n1 z1, .slice p2 n2 z2, .int .u64 t.prev, .int .u64 t.org, .int .u64 t.fst, .int .i64 t.vou, .int .i64 t.posts, .slice p3 n3 z3] 27 (0, 0)))
  have HR := Lib.hid (new_rowW w (.cells #[.int .u64 t.num, .string t.loc, .int .i64 t.iss, .slice p1 n1 z1, .slice p2 n2 z2, .int .u64 t.prev, .int .u64 t.org, .int .u64 t.fst, .int .i64 t.vou, .int .i64 t.posts, .slice p3 n3 z3] 27 (0, 0)) _ rfl)
  have hc := fun j => cell_of_row _ w.heap.size j _ _ _ HR.out
  have HNU := Lib.hid (fun W => rnumbered_any t.num ts.wf.num W)
  have HNF := Lib.hid (fun W => rnumbered_any t.fst ts.wf.fst W)
  have HNP := Lib.hid (fun W => rnumbered_any t.prev ts.wf.prev W)
  have HNO := Lib.hid (fun W => rnumbered_any t.org ts.wf.org W)
  have HLO := Lib.hid (fun W => refLocator_any t.loc W ts.wf.loc)
  have HDY := Lib.hid (fun W => rday_any t.iss W)
  have HTH := Lib.hid (fun W hW => rthen_any t ⟨p1, n1, z1⟩ ⟨p2, n2, z2⟩ ⟨p3, n3, z3⟩ 0 W (ts.below hW))
  have HMC := Lib.hid (fun (y : Cpn) (hy : y ∈ t.cs) W => rmayCoupon_any t.num y ts.wf.num (ts.wf.cs y hy) W)
  have HIS : Hid (Tkt.dayB t.iss = true → 0 ≤ t.iss) := Lib.hid (fun h => by unfold Tkt.dayB at h; simp at h; exact h.1)
  obtain ⟨bv, hbv⟩ : ∃ bv, Tkt.mayB t = bv := ⟨_, rfl⟩
  rw [hbv]
  obtain ⟨b1, e1⟩ : ∃ q, Tkt.numB t.num = q := ⟨_, rfl⟩
  obtain ⟨b2, e2⟩ : ∃ q, Num.loc t.loc.data.toList = q := ⟨_, rfl⟩
  obtain ⟨b3, e3⟩ : ∃ q, Tkt.dayB t.iss = q := ⟨_, rfl⟩
  obtain ⟨b4, e4⟩ : ∃ q, Tkt.numB t.fst = q := ⟨_, rfl⟩
  obtain ⟨c1, o1⟩ : ∃ q, Tkt.numB t.prev = q := ⟨_, rfl⟩
  obtain ⟨c3, o3⟩ : ∃ q, Tkt.numB t.org = q := ⟨_, rfl⟩
  obtain ⟨b5, e5⟩ : ∃ q, decide (t.vou < 0) = q := ⟨_, rfl⟩
  obtain ⟨b6, e6⟩ : ∃ q, decide (1125899906842624 < t.vou) = q := ⟨_, rfl⟩
  obtain ⟨b7, e7⟩ : ∃ q, decide (t.posts < 0) = q := ⟨_, rfl⟩
  obtain ⟨b8, e8⟩ : ∃ q, decide (200 < t.posts) = q := ⟨_, rfl⟩
  obtain ⟨c0, o0⟩ : ∃ q, (t.prev == 0) = q := ⟨_, rfl⟩
  obtain ⟨d0, r0⟩ : ∃ q, (t.prev != 0) = q := ⟨_, rfl⟩
  obtain ⟨c2, o2⟩ : ∃ q, (t.prev == t.num) = q := ⟨_, rfl⟩
  obtain ⟨c4, o4⟩ : ∃ q, (t.org == t.num) = q := ⟨_, rfl⟩
  obtain ⟨d4, r4⟩ : ∃ q, (t.org != t.num) = q := ⟨_, rfl⟩
  have HMB : Hid (bv = ((b1 && b2 && b3 && b4 && !b5 && !b6 && !b7 && !b8) && (if c0 = true then c4 else (c1 && !c2 && (c3 && !c4))) && Tkt.lensB t && t.cs.all (Tkt.cpnB t.num) && Tkt.taxB 1 t.ts && Tkt.histB 0 t)) := Lib.hid (by
    rw [← hbv, Tkt.mayB, Tkt.headB, e1, e2, e3, e4, Tkt.othB, Tkt.othB, o1, o3, ← e5, ← e6, ← e7, ← e8, ← o0, ← o2, ← o4]
    have g1 : decide (0 ≤ t.vou) = !decide (t.vou < 0) := by rw [← decide_not]; exact decide_eq_decide.2 (by omega)
    have g2 : decide (t.vou ≤ 1125899906842624) = !decide (1125899906842624 < t.vou) := by rw [← decide_not]; exact decide_eq_decide.2 (by omega)
    have g3 : decide (0 ≤ t.posts) = !decide (t.posts < 0) := by rw [← decide_not]; exact decide_eq_decide.2 (by omega)
    have g4 : decide (t.posts ≤ 200) = !decide (200 < t.posts) := by rw [← decide_not]; exact decide_eq_decide.2 (by omega)
    rw [g1, g2, g3, g4]
    have h1 : (if t.prev = 0 then decide (t.org = t.num) else (c1 && !decide (t.prev = t.num)) && (c3 && !decide (t.org = t.num))) = (if (t.prev == 0) = true then (t.org == t.num) else (c1 && !(t.prev == t.num) && (c3 && !(t.org == t.num)))) := by
      have k1 : ∀ a b : Int, (a == b) = decide (a = b) := fun a b => by rw [Bool.eq_iff_iff]; simp
      rw [k1, k1, k1]
      simp only [decide_eq_true_eq]
    rw [h1]
    generalize (if (t.prev == 0) = true then (t.org == t.num) else (c1 && !(t.prev == t.num) && (c3 && !(t.org == t.num)))) = ow
    generalize (!decide (t.vou < 0)) = x1; generalize (!decide (1125899906842624 < t.vou)) = x2; generalize (!decide (t.posts < 0)) = x3; generalize (!decide (200 < t.posts)) = x4
    cases b1 <;> cases b2 <;> cases b3 <;> cases b4 <;> cases ow <;> cases x1 <;> cases x2 <;> cases x3 <;> cases x4 <;> rfl)
  have hd0 : d0 = !c0 := by rw [← r0, ← o0]; rfl
  have hd4 : d4 = !c4 := by rw [← r4, ← o4]; rfl
  have HNZ : Hid (c0 = true → t.prev = 0) := Lib.hid (fun h => by rw [← o0] at h; exact beq_iff_eq.1 h)
  rw [e1] at HNU; rw [e4] at HNF; rw [o1] at HNP; rw [o3] at HNO; rw [e2] at HLO; rw [e3] at HDY
  have HE3 := Lib.hid e3
  clear hbv ts e1 e2 e3 e4 o1 o3
  subst hd0; subst hd4
  go_enter Try.func18, Try.ntmps18
  by_cases hh : (b1 && b2 && b3 && b4 && !b5 && !b6 && !b7 && !b8) = true
  · have hq : b1 = true ∧ b2 = true ∧ b3 = true ∧ b4 = true ∧ b5 = false ∧ b6 = false ∧ b7 = false ∧ b8 = false := by
      simp only [Bool.and_eq_true, Bool.not_eq_true'] at hh; obtain ⟨⟨⟨⟨⟨⟨⟨h1, h2⟩, h3⟩, h4⟩, h5⟩, h6⟩, h7⟩, h8⟩ := hh; exact ⟨h1, h2, h3, h4, h5, h6, h7, h8⟩
    obtain ⟨rfl, rfl, rfl, rfl, rfl, rfl, rfl, rfl⟩ := hq
    clear hh
    go_upto_region 3 with (first | (go_at_call 61; (first | (with_reducible refine (HNU.out _).mono ?_) | (with_reducible refine (HNF.out _).mono ?_) | (with_reducible refine (HNP.out _).mono ?_) | (with_reducible refine (HNO.out _).mono ?_)); rintro e wn ⟨rfl, hbn⟩; have HB := Lib.hid (HB.out.trans (hbn.mono HB.out.size)); have HR := Lib.hid ((hbn.block _ (block_lt HR.out)).trans HR.out); have hc := fun j => cell_of_row _ w.heap.size j _ _ _ HR.out; clear hbn) | (go_at_call 62; refine (HLO.out _).mono ?_; rintro e wn ⟨rfl, rfl⟩) | (go_at_call 63; refine (HDY.out _).mono ?_; rintro e wn ⟨rfl, rfl⟩))
    clear e5 e6 e7 e8
    cases c0
    · by_cases ho : (c1 && !c2 && (c3 && !c4)) = true
      · have hq : c1 = true ∧ c2 = false ∧ c3 = true ∧ c4 = false := by simp only [Bool.and_eq_true, Bool.not_eq_true'] at ho; exact ⟨ho.1.1, ho.1.2, ho.2.1, ho.2.2⟩
        obtain ⟨rfl, rfl, rfl, rfl⟩ := hq
        clear ho
        simp only [Bool.not_true, Bool.not_false] at r0 r4
        go_upto_region 5 with (first | (go_at_call 61; (first | (with_reducible refine (HNU.out _).mono ?_) | (with_reducible refine (HNF.out _).mono ?_) | (with_reducible refine (HNP.out _).mono ?_) | (with_reducible refine (HNO.out _).mono ?_)); rintro e wn ⟨rfl, hbn⟩; have HB := Lib.hid (HB.out.trans (hbn.mono HB.out.size)); have HR := Lib.hid ((hbn.block _ (block_lt HR.out)).trans HR.out); have hc := fun j => cell_of_row _ w.heap.size j _ _ _ HR.out; clear hbn) | (go_at_call 62; refine (HLO.out _).mono ?_; rintro e wn ⟨rfl, rfl⟩) | (go_at_call 63; refine (HDY.out _).mono ?_; rintro e wn ⟨rfl, rfl⟩))
        by_cases hl : 1 ≤ n1 ∧ n1 ≤ 4 ∧ n2 ≤ 4 ∧ n3 ≤ 60
        · obtain ⟨g1, g2, g3, g4⟩ := hl
          have HLB : Hid (Tkt.lensB t = true) := Lib.hid (by unfold Tkt.lensB; rw [← HN1.out, ← HN2.out, ← HN3.out, decide_eq_true g1, decide_eq_true g2, decide_eq_true g3, decide_eq_true g4]; rfl)
          have HL4 : Hid (n1 ≤ 4 ∧ n2 ≤ 4) := Lib.hid ⟨g2, g3⟩
          go_wp2_with fail
          clear hc g1 g2 g3 g4
          go_loopw [3] (fun i wr => ∃ k : Nat, k ≤ n1 ∧ i = .int .i64 k ∧ Below w.heap.size w wr ∧ wr.heap[w.heap.size]? = some (.cells #[.int .u64 t.num, .string t.loc, .int .i64 t.iss, .slice p1 n1 z1, .slice p2 n2 z2, .int .u64 t.prev, .int .u64 t.org, .int .u64 t.fst, .int .i64 t.vou, .int .i64 t.posts, .slice p3 n3 z3] 27 (0, 0)) ∧ ∀ (l : Nat) (y : Cpn), l < k → t.cs[l]? = some y → Tkt.cpnB t.num y = true) (fun i _ => n1 - (intOf i).toNat)
          case atStart => exact ⟨0, Nat.zero_le _, rfl, HB.out, HR.out, fun l y h => absurd h (Nat.not_lt_zero _)⟩
          case round =>
            obtain ⟨k, hk, rfl, hbw, hrw, hall⟩ := hrel
            have HBW := Lib.hid hbw; have HRW := Lib.hid hrw; have HALL := Lib.hid hall
            clear hbw hrw hall
            have hn4 : n1 ≤ 4 := HL4.out.1
            have hc := fun j => cell_of_row wr w.heap.size j _ _ _ HRW.out
            by_cases hlt : k < n1
            · obtain ⟨y, hy⟩ : ∃ y, t.cs[k]? = some y := ⟨_, List.getElem?_eq_getElem (by have := HN1.out; omega)⟩
              obtain ⟨bb, o, hp, hbl, hr⟩ := (HTS.out.cs.below HBW.out).at hy
              subst hp
              have HY := Lib.hid hy
              have HMY := Lib.hid (HMC.out y (List.mem_of_getElem? hy))
              have x0 : wr.cell? ⟨bb, o + k * 6, none⟩ = some (.int .i64 y.fl) := hr 0 _ rfl
              have x1 : wr.cell? ⟨bb, o + k * 6 + 1, none⟩ = some (.int .i64 y.dy) := hr 1 _ rfl
              have x2 : wr.cell? ⟨bb, o + k * 6 + 2, none⟩ = some (.int .i64 y.va) := hr 2 _ rfl
              have x3 : wr.cell? ⟨bb, o + k * 6 + 3, none⟩ = some (.int .i64 y.st) := hr 3 _ rfl
              have x4 : wr.cell? ⟨bb, o + k * 6 + 4, none⟩ = some (.int .i64 y.ho) := hr 4 _ rfl
              have x5 : wr.cell? ⟨bb, o + k * 6 + 5, none⟩ = some (.int .u64 y.nx) := hr 5 _ rfl
              have y0 : wr.cell? ⟨w.heap.size, 0, none⟩ = some (.int .u64 t.num) := hc 0
              have y3 : wr.cell? ⟨w.heap.size, 3, none⟩ = some (.slice (some ⟨bb, o, none⟩) n1 z1) := hc 3
              have hgl := block_lt HRW.out
              obtain ⟨q, hq⟩ : ∃ q, Tkt.cpnB t.num y = q := ⟨_, rfl⟩
              rw [hq] at HMY
              have HQ := Lib.hid hq
              clear hy hr hq
              go_upto_region 10 with fail
              have hL := @Later.cell
              refine wp_region_later (by kernel_rfl) (by kernel_rfl) ?_
              repeat (go_big_quiet_step (first | (go_at_call 64; with_reducible exact later_call (HMY.out _))))
              refine wpQuiet_nil ?_
              rintro wz ⟨u', rfl⟩
              have HB5 := Lib.hid (HBW.out.trans (u'.prop.mono HBW.out.size))
              have HR5 := Lib.hid ((u'.prop.block _ (block_lt HRW.out)).trans HRW.out)
              generalize u'.val = w5 at *
              clear x0 x1 x2 x3 x4 x5 y0 y3 hL hgl hc
              cases q
              · have HF : Hid (bv = false) := Lib.hid (by
                  rw [HMB.out]
                  have h1 : t.cs.all (Tkt.cpnB t.num) = false := by rw [List.all_eq_false]; exact ⟨y, List.mem_of_getElem? HY.out, by rw [HQ.out]; simp⟩
                  rw [h1]; simp)
                go_wp2
                go_ret
                exact ⟨ret_bool HF.out.symm, HB5.out⟩
              · go_wp2
                go_roundw
                case rel =>
                  refine ⟨k + 1, by omega, by go_num, HB5.out, HR5.out, fun l y2 hl hy2 => ?_⟩
                  rcases Nat.lt_or_ge l k with h | h
                  · exact HALL.out l y2 h hy2
                  · obtain rfl : l = k := by omega
                    have h2 := HY.out.symm.trans hy2
                    injection h2 with h2
                    rw [← h2]; exact HQ.out
                case measure => simp [intOf]; omega
            · obtain rfl : n1 = k := by omega
              clear hlt
              have HAL : Hid (t.cs.all (Tkt.cpnB t.num) = true) := Lib.hid (by
                rw [List.all_eq_true]
                intro y hy
                obtain ⟨l, hl⟩ := List.getElem?_of_mem hy
                exact HALL.out l y (by have := (List.getElem?_eq_some_iff.1 hl).1; have := HN1.out; omega) hl)
              go_wp2_with fail
              clear hc
              go_loopw [4] (fun i wx => ∃ (k : Nat) (L : Int), k ≤ n2 ∧ i = .int .i64 k ∧ Below w.heap.size w wx ∧ wx.heap[w.heap.size]? = some (.cells #[.int .u64 t.num, .string t.loc, .int .i64 t.iss, .slice p1 n1 z1, .slice p2 n2 z2, .int .u64 t.prev, .int .u64 t.org, .int .u64 t.fst, .int .i64 t.vou, .int .i64 t.posts, .slice p3 n3 z3] 27 (0, 0)) ∧ Tkt.taxB 1 t.ts = Tkt.taxB L (t.ts.drop k) ∧ (k = 0 → L = 1) ∧ (∀ j, k = j + 1 → ∃ pv, t.ts[j]? = some pv ∧ 1 ≤ pv.cd ∧ pv.cd ≤ 99 ∧ L = pv.cd + 1)) (fun i _ => n2 - (intOf i).toNat)
              case atStart => exact ⟨0, 1, Nat.zero_le _, rfl, HBW.out, HRW.out, rfl, fun _ => rfl, fun j h => absurd h (by omega)⟩
              case round =>
                obtain ⟨k, L, hk, rfl, hbx, hrx, htx, hl0, hlj⟩ := hrel
                have HBX := Lib.hid hbx; have HRX := Lib.hid hrx; have HTX := Lib.hid htx; have HL0 := Lib.hid hl0; have HLJ := Lib.hid hlj
                clear hbx hrx htx hl0 hlj
                have hn4b : n2 ≤ 4 := HL4.out.2
                have hc := fun j => cell_of_row wr w.heap.size j _ _ _ HRX.out
                by_cases hlt : k < n2
                · obtain ⟨y, hy⟩ : ∃ y, t.ts[k]? = some y := ⟨_, List.getElem?_eq_getElem (by have := HN2.out; omega)⟩
                  have HD : Hid (t.ts.drop k = y :: t.ts.drop (k + 1)) := Lib.hid (by obtain ⟨h1, h2⟩ := List.getElem?_eq_some_iff.1 hy; rw [← h2]; exact List.drop_eq_getElem_cons h1)
                  obtain ⟨bb, o, hp, hbl, hr⟩ := (HTS.out.ts.below HBX.out).at hy
                  have HPV : Hid (∀ j pv, k = j + 1 → t.ts[j]? = some pv → wr.cell? ⟨bb, o + j * 2, none⟩ = some (.int .i64 pv.cd)) := Lib.hid (fun j pv hkj hpv => by
                    obtain ⟨bb2, o2, hp2, hbl2, hr2⟩ := (HTS.out.ts.below HBX.out).at hpv
                    rw [hp] at hp2
                    injection hp2 with hp2
                    injection hp2 with hp3 hp4
                    subst hp3; subst hp4
                    exact hr2 0 _ rfl)
                  subst hp
                  have HY := Lib.hid hy
                  have x0 : wr.cell? ⟨bb, o + k * 2, none⟩ = some (.int .i64 y.cd) := hr 0 _ rfl
                  have x1 : wr.cell? ⟨bb, o + k * 2 + 1, none⟩ = some (.int .i64 y.am) := hr 1 _ rfl
                  clear hy hr
                  go_upto_region 16 with fail
                  have HBL := Lib.hid hbl
                  have hb5 := (Below.refl wr.heap.size wr).alloc (Nat.le_refl _) (.cells #[.int .i64 y.cd, .int .i64 y.am] 48 (0, 0))
                  have HB5 := Lib.hid (HBX.out.trans (hb5.mono HBX.out.size))
                  have HR5 := Lib.hid (row_after (o' := (.cells #[.int .i64 y.cd, .int .i64 y.am] 48 (0, 0))) HRX.out)
                  have HTR := Lib.hid (new_rowW wr (.cells #[.int .i64 y.cd, .int .i64 y.am] 48 (0, 0)) _ rfl)
                  have HPV5 : Hid (∀ j pv, k = j + 1 → t.ts[j]? = some pv → (wr.alloc (.cells #[.int .i64 y.cd, .int .i64 y.am] 48 (0, 0))).cell? ⟨bb, o + j * 2, none⟩ = some (.int .i64 pv.cd)) := Lib.hid (fun j pv h1 h2 => (hb5.cell (p := ⟨bb, o + j * 2, none⟩) HBL.out).trans (HPV.out j pv h1 h2))
                  have hbl5 : bb < (wr.alloc (.cells #[.int .i64 y.cd, .int .i64 y.am] 48 (0, 0))).heap.size := Nat.lt_of_lt_of_le HBL.out hb5.size
                  clear x0 x1 hc hb5 hbl
                  generalize wr.heap.size = ge at *
                  generalize wr.alloc (.cells #[.int .i64 y.cd, .int .i64 y.am] 48 (0, 0)) = w5 at *
                  have y0 : w5.cell? ⟨ge, 0, none⟩ = some (.int .i64 y.cd) := cell_of_row _ _ 0 _ _ _ HTR.out
                  have y1 : w5.cell? ⟨ge, 1, none⟩ = some (.int .i64 y.am) := cell_of_row _ _ 1 _ _ _ HTR.out
                  have y4 : w5.cell? ⟨w.heap.size, 4, none⟩ = some (.slice (some ⟨bb, o, none⟩) n2 z2) := cell_of_row _ _ 4 _ _ _ HR5.out
                  have l0 := block_lt HTR.out
                  have l1 := block_lt HR5.out
                  have HSM := Lib.hid (fun W => rsome_any y.am W)
                  obtain ⟨sm, hsm⟩ : ∃ q, Tkt.someB y.am = q := ⟨_, rfl⟩
                  rw [hsm] at HSM
                  have HSB := Lib.hid hsm
                  clear hsm
                  have HBAD : Hid ((decide (L ≤ y.cd) && decide (y.cd ≤ 99) && sm) = false → bv = false) := Lib.hid (fun hq => by
                    rw [HMB.out, HTX.out, HD.out]
                    have h1 : Tkt.taxB L (y :: t.ts.drop (k + 1)) = false := by show (decide (L ≤ y.cd) && decide (y.cd ≤ 99) && Tkt.someB y.am && _) = false; rw [HSB.out, hq]; rfl
                    rw [h1]; simp)
                  have HGOOD : Hid ((decide (L ≤ y.cd) && decide (y.cd ≤ 99) && sm) = true → Tkt.taxB 1 t.ts = Tkt.taxB (y.cd + 1) (t.ts.drop (k + 1))) := Lib.hid (fun hq => by
                    rw [HTX.out, HD.out]
                    show (decide (L ≤ y.cd) && decide (y.cd ≤ 99) && Tkt.someB y.am && _) = _
                    rw [HSB.out, hq]; rfl)
                  have hL := @Later.cell
                  by_cases h1 : y.cd < 1
                  · have d1 : decide (y.cd < 1) = true := decide_eq_true h1
                    have HLL : Hid (1 ≤ L) := Lib.hid (by cases k with | zero => rw [HL0.out rfl]; exact Int.le_refl _ | succ j => obtain ⟨pv, -, k1, -, k2⟩ := HLJ.out j rfl; omega)
                    have HF : Hid (bv = false) := Lib.hid (HBAD.out (by rw [show decide (L ≤ y.cd) = false from decide_eq_false (by have := HLL.out; omega)]; simp only [Bool.false_and]))
                    refine wp_region_later (by kernel_rfl) (by kernel_rfl) ?_
                    repeat (go_big_quiet_step (first | (go_at_call 65; with_reducible exact later_same (HSM.out _))))
                    refine wpQuiet_nil ?_
                    rintro wz ⟨u', rfl⟩
                    have HB6 := Lib.hid (HB5.out.trans (u'.prop.mono HB5.out.size))
                    have HR6 := Lib.hid ((u'.prop.block _ (block_lt HR5.out)).trans HR5.out)
                    generalize u'.val = w6 at *
                    clear y0 y1 y4 l0 l1 hL
                    go_wp2
                    go_ret
                    exact ⟨ret_bool HF.out.symm, HB6.out⟩
                  have d1 : decide (y.cd < 1) = false := decide_eq_false h1
                  by_cases h2 : 99 < y.cd
                  · have d2 : decide (99 < y.cd) = true := decide_eq_true h2
                    have HF : Hid (bv = false) := Lib.hid (HBAD.out (by rw [show decide (y.cd ≤ 99) = false from decide_eq_false (by omega)]; simp only [Bool.false_and, Bool.and_false]))
                    refine wp_region_later (by kernel_rfl) (by kernel_rfl) ?_
                    repeat (go_big_quiet_step (first | (go_at_call 65; with_reducible exact later_same (HSM.out _))))
                    refine wpQuiet_nil ?_
                    rintro wz ⟨u', rfl⟩
                    have HB6 := Lib.hid (HB5.out.trans (u'.prop.mono HB5.out.size))
                    have HR6 := Lib.hid ((u'.prop.block _ (block_lt HR5.out)).trans HR5.out)
                    generalize u'.val = w6 at *
                    clear y0 y1 y4 l0 l1 hL
                    go_wp2
                    go_ret
                    exact ⟨ret_bool HF.out.symm, HB6.out⟩
                  have d2 : decide (99 < y.cd) = false := decide_eq_false h2
                  have HYB : Hid (1 ≤ y.cd ∧ y.cd ≤ 99) := Lib.hid (by omega)
                  clear h1 h2
                  cases k with
                  | zero =>
                    have d3 : decide ((0 : Int) < ((0 : Nat) : Int)) = false := rfl
                    have d3b : decide (0 < (0 : Nat)) = false := rfl
                    have HL1 : Hid (L = 1) := Lib.hid (HL0.out rfl)
                    cases sm
                    · have HF : Hid (bv = false) := Lib.hid (HBAD.out (by simp only [Bool.and_false]))
                      refine wp_region_later (by kernel_rfl) (by kernel_rfl) ?_
                      repeat (go_big_quiet_step (first | (go_at_call 65; with_reducible exact later_same (HSM.out _))))
                      refine wpQuiet_nil ?_
                      rintro wz ⟨u', rfl⟩
                      have HB6 := Lib.hid (HB5.out.trans (u'.prop.mono HB5.out.size))
                      have HR6 := Lib.hid ((u'.prop.block _ (block_lt HR5.out)).trans HR5.out)
                      generalize u'.val = w6 at *
                      clear y0 y1 y4 l0 l1 hL
                      go_wp2
                      go_ret
                      exact ⟨ret_bool HF.out.symm, HB6.out⟩
                    · have HGD := Lib.hid (HGOOD.out (by rw [decide_eq_true (by have h1 := HL1.out; have h2 := HYB.out; omega : L ≤ y.cd), decide_eq_true HYB.out.2]; rfl))
                      refine wp_region_later (by kernel_rfl) (by kernel_rfl) ?_
                      repeat (go_big_quiet_step (first | (go_at_call 65; with_reducible exact later_same (HSM.out _))))
                      refine wpQuiet_nil ?_
                      rintro wz ⟨u', rfl⟩
                      have HB6 := Lib.hid (HB5.out.trans (u'.prop.mono HB5.out.size))
                      have HR6 := Lib.hid ((u'.prop.block _ (block_lt HR5.out)).trans HR5.out)
                      generalize u'.val = w6 at *
                      clear y0 y1 y4 l0 l1 hL
                      go_wp2
                      go_roundw
                      case rel =>
                        refine ⟨0 + 1, y.cd + 1, by omega, by go_num, HB6.out, HR6.out, HGD.out, fun h => absurd h (by omega), fun j hj => ?_⟩
                        obtain rfl : 0 = j := by omega
                        exact ⟨y, HY.out, HYB.out.1, HYB.out.2, rfl⟩
                      case measure => simp [intOf]; omega
                  | succ j =>
                    obtain ⟨pv, hpv, hp1, hp2, hpl⟩ := HLJ.out j rfl
                    have yp := HPV5.out j pv rfl hpv
                    have d3 : decide ((0 : Int) < ((j + 1 : Nat) : Int)) = true := decide_eq_true (by omega)
                    have d3b : decide (0 < j + 1) = true := decide_eq_true (by omega)
                    have hwr : IntKind.i64.wrap (((j + 1 : Nat) : Int) - 1) = (j : Int) := by rw [IntKind.wrap_i64]; omega
                    have hwr2 : IntKind.i64.wrap ((j : Int) + 1 - 1) = (j : Int) := by rw [IntKind.wrap_i64]; omega
                    have HPL := Lib.hid hpl
                    have HPB : Hid (1 ≤ pv.cd ∧ pv.cd ≤ 99) := Lib.hid ⟨hp1, hp2⟩
                    clear hpv hp1 hp2 hpl
                    by_cases h3 : y.cd ≤ pv.cd
                    · have d4 : decide (y.cd ≤ pv.cd) = true := decide_eq_true h3
                      have HF : Hid (bv = false) := Lib.hid (HBAD.out (by rw [show decide (L ≤ y.cd) = false from decide_eq_false (by have := HPL.out; omega)]; simp only [Bool.false_and]))
                      refine wp_region_later (by kernel_rfl) (by kernel_rfl) ?_
                      repeat (go_big_quiet_step (first | (go_at_call 65; with_reducible exact later_same (HSM.out _))))
                      refine wpQuiet_nil ?_
                      rintro wz ⟨u', rfl⟩
                      have HB6 := Lib.hid (HB5.out.trans (u'.prop.mono HB5.out.size))
                      have HR6 := Lib.hid ((u'.prop.block _ (block_lt HR5.out)).trans HR5.out)
                      generalize u'.val = w6 at *
                      clear y0 y1 y4 l0 l1 hL
                      go_wp2
                      go_ret
                      exact ⟨ret_bool HF.out.symm, HB6.out⟩
                    · have d4 : decide (y.cd ≤ pv.cd) = false := decide_eq_false h3
                      have HLY : Hid (L ≤ y.cd) := Lib.hid (by have := HPL.out; omega)
                      clear h3
                      cases sm
                      · have HF : Hid (bv = false) := Lib.hid (HBAD.out (by simp only [Bool.and_false]))
                        refine wp_region_later (by kernel_rfl) (by kernel_rfl) ?_
                        repeat (go_big_quiet_step (first | (go_at_call 65; with_reducible exact later_same (HSM.out _))))
                        refine wpQuiet_nil ?_
                        rintro wz ⟨u', rfl⟩
                        have HB6 := Lib.hid (HB5.out.trans (u'.prop.mono HB5.out.size))
                        have HR6 := Lib.hid ((u'.prop.block _ (block_lt HR5.out)).trans HR5.out)
                        generalize u'.val = w6 at *
                        clear y0 y1 y4 l0 l1 hL
                        go_wp2
                        go_ret
                        exact ⟨ret_bool HF.out.symm, HB6.out⟩
                      · have HGD := Lib.hid (HGOOD.out (by rw [decide_eq_true HLY.out, decide_eq_true HYB.out.2]; rfl))
                        refine wp_region_later (by kernel_rfl) (by kernel_rfl) ?_
                        repeat (go_big_quiet_step (first | (go_at_call 65; with_reducible exact later_same (HSM.out _))))
                        refine wpQuiet_nil ?_
                        rintro wz ⟨u', rfl⟩
                        have HB6 := Lib.hid (HB5.out.trans (u'.prop.mono HB5.out.size))
                        have HR6 := Lib.hid ((u'.prop.block _ (block_lt HR5.out)).trans HR5.out)
                        generalize u'.val = w6 at *
                        clear y0 y1 y4 l0 l1 hL
                        go_wp2
                        go_roundw
                        case rel =>
                          refine ⟨j + 1 + 1, y.cd + 1, by omega, by go_num, HB6.out, HR6.out, HGD.out, fun h => absurd h (by omega), fun j' hj => ?_⟩
                          obtain rfl : j + 1 = j' := by omega
                          exact ⟨y, HY.out, HYB.out.1, HYB.out.2, rfl⟩
                        case measure => simp [intOf]; omega
                · obtain rfl : n2 = k := by omega
                  clear hlt
                  have HTT : Hid (Tkt.taxB 1 t.ts = true) := Lib.hid (by rw [HTX.out, List.drop_of_length_le (by have := HN2.out; omega)]; rfl)
                  obtain ⟨f1, f2⟩ := row_loT 11 HRX.out rfl rfl
                  have HOWN : Hid (bv = Tkt.histB 0 t) := Lib.hid (by rw [HMB.out, HLB.out, HAL.out, HTT.out]; simp)
                  go_wp2_with (go_at_call 36; refine (HTH.out _ HBX.out (by have h1 := HN1.out; have h2 := HL4.out; omega) (HIS.out HE3.out)).mono ?_; rintro e wt ⟨v, rfl, -, hbt⟩; have HBT := Lib.hid (HBX.out.trans (hbt.mono HBX.out.size)); clear hbt)
                  go_ret
                  exact ⟨ret_bool HOWN.out.symm, HBT.out⟩
        · have HF : Hid (bv = false) := Lib.hid (by
            rw [HMB.out]
            have h1 : Tkt.lensB t = false := by
              unfold Tkt.lensB
              rw [← HN1.out, ← HN2.out, ← HN3.out]
              cases hq : (decide (1 ≤ n1) && decide (n1 ≤ 4) && decide (n2 ≤ 4) && decide (n3 ≤ 60))
              · rfl
              · simp only [Bool.and_eq_true, decide_eq_true_eq] at hq; exact absurd ⟨hq.1.1.1, hq.1.1.2, hq.1.2, hq.2⟩ hl
            rw [h1]; simp)
          have h2 : (n1 : Int) < 1 ∨ (¬ (n1 : Int) < 1 ∧ 4 < (n1 : Int)) ∨ (¬ (n1 : Int) < 1 ∧ ¬ 4 < (n1 : Int) ∧ 4 < (n2 : Int)) ∨ (¬ (n1 : Int) < 1 ∧ ¬ 4 < (n1 : Int) ∧ ¬ 4 < (n2 : Int) ∧ 60 < (n3 : Int)) := by omega
          clear hl
          rcases h2 with g1 | ⟨g1, g2⟩ | ⟨g1, g2, g3⟩ | ⟨g1, g2, g3, g4⟩
          all_goals
            go_wp2
            go_ret
            exact ⟨ret_bool HF.out.symm, HB.out⟩
      · have HF : Hid (bv = false) := Lib.hid (by
          rw [HMB.out]
          have h1 : (c1 && !c2 && (c3 && !c4)) = false := by simpa using ho
          rw [if_neg (by simp), h1]; simp)
        have h2 : c1 = false ∨ (c1 = true ∧ c2 = true) ∨ (c1 = true ∧ c2 = false ∧ c3 = false) ∨ (c1 = true ∧ c2 = false ∧ c3 = true ∧ c4 = true) := by
          revert ho; cases c1 <;> cases c2 <;> cases c3 <;> cases c4 <;> simp
        clear ho
        rcases h2 with rfl | ⟨rfl, rfl⟩ | ⟨rfl, rfl, rfl⟩ | ⟨rfl, rfl, rfl, rfl⟩
        all_goals
          (try simp only [Bool.not_true, Bool.not_false] at r0 r4)
          go_wp2_with (first | (go_at_call 61; (first | (with_reducible refine (HNU.out _).mono ?_) | (with_reducible refine (HNF.out _).mono ?_) | (with_reducible refine (HNP.out _).mono ?_) | (with_reducible refine (HNO.out _).mono ?_)); rintro e wn ⟨rfl, hbn⟩; have HB := Lib.hid (HB.out.trans (hbn.mono HB.out.size)); have HR := Lib.hid ((hbn.block _ (block_lt HR.out)).trans HR.out); have hc := fun j => cell_of_row _ w.heap.size j _ _ _ HR.out; clear hbn) | (go_at_call 62; refine (HLO.out _).mono ?_; rintro e wn ⟨rfl, rfl⟩) | (go_at_call 63; refine (HDY.out _).mono ?_; rintro e wn ⟨rfl, rfl⟩))
          go_ret
          exact ⟨ret_bool HF.out.symm, HB.out⟩
    · cases c4
      · have HF : Hid (bv = false) := Lib.hid (by rw [HMB.out]; simp)
        simp only [Bool.not_true, Bool.not_false] at r0 r4
        go_wp2_with (first | (go_at_call 61; (first | (with_reducible refine (HNU.out _).mono ?_) | (with_reducible refine (HNF.out _).mono ?_) | (with_reducible refine (HNP.out _).mono ?_) | (with_reducible refine (HNO.out _).mono ?_)); rintro e wn ⟨rfl, hbn⟩; have HB := Lib.hid (HB.out.trans (hbn.mono HB.out.size)); have HR := Lib.hid ((hbn.block _ (block_lt HR.out)).trans HR.out); have hc := fun j => cell_of_row _ w.heap.size j _ _ _ HR.out; clear hbn) | (go_at_call 62; refine (HLO.out _).mono ?_; rintro e wn ⟨rfl, rfl⟩) | (go_at_call 63; refine (HDY.out _).mono ?_; rintro e wn ⟨rfl, rfl⟩))
        go_ret
        exact ⟨ret_bool HF.out.symm, HB.out⟩
      · simp only [Bool.not_true, Bool.not_false] at r0 r4
        go_upto_region 5 with (first | (go_at_call 61; (first | (with_reducible refine (HNU.out _).mono ?_) | (with_reducible refine (HNF.out _).mono ?_) | (with_reducible refine (HNP.out _).mono ?_) | (with_reducible refine (HNO.out _).mono ?_)); rintro e wn ⟨rfl, hbn⟩; have HB := Lib.hid (HB.out.trans (hbn.mono HB.out.size)); have HR := Lib.hid ((hbn.block _ (block_lt HR.out)).trans HR.out); have hc := fun j => cell_of_row _ w.heap.size j _ _ _ HR.out; clear hbn) | (go_at_call 62; refine (HLO.out _).mono ?_; rintro e wn ⟨rfl, rfl⟩) | (go_at_call 63; refine (HDY.out _).mono ?_; rintro e wn ⟨rfl, rfl⟩))
        by_cases hl : 1 ≤ n1 ∧ n1 ≤ 4 ∧ n2 ≤ 4 ∧ n3 ≤ 60
        · obtain ⟨g1, g2, g3, g4⟩ := hl
          have HLB : Hid (Tkt.lensB t = true) := Lib.hid (by unfold Tkt.lensB; rw [← HN1.out, ← HN2.out, ← HN3.out, decide_eq_true g1, decide_eq_true g2, decide_eq_true g3, decide_eq_true g4]; rfl)
          have HL4 : Hid (n1 ≤ 4 ∧ n2 ≤ 4) := Lib.hid ⟨g2, g3⟩
          go_wp2_with fail
          clear hc g1 g2 g3 g4
          go_loopw [3] (fun i wr => ∃ k : Nat, k ≤ n1 ∧ i = .int .i64 k ∧ Below w.heap.size w wr ∧ wr.heap[w.heap.size]? = some (.cells #[.int .u64 t.num, .string t.loc, .int .i64 t.iss, .slice p1 n1 z1, .slice p2 n2 z2, .int .u64 t.prev, .int .u64 t.org, .int .u64 t.fst, .int .i64 t.vou, .int .i64 t.posts, .slice p3 n3 z3] 27 (0, 0)) ∧ ∀ (l : Nat) (y : Cpn), l < k → t.cs[l]? = some y → Tkt.cpnB t.num y = true) (fun i _ => n1 - (intOf i).toNat)
          case atStart => exact ⟨0, Nat.zero_le _, rfl, HB.out, HR.out, fun l y h => absurd h (Nat.not_lt_zero _)⟩
          case round =>
            obtain ⟨k, hk, rfl, hbw, hrw, hall⟩ := hrel
            have HBW := Lib.hid hbw; have HRW := Lib.hid hrw; have HALL := Lib.hid hall
            clear hbw hrw hall
            have hn4 : n1 ≤ 4 := HL4.out.1
            have hc := fun j => cell_of_row wr w.heap.size j _ _ _ HRW.out
            by_cases hlt : k < n1
            · obtain ⟨y, hy⟩ : ∃ y, t.cs[k]? = some y := ⟨_, List.getElem?_eq_getElem (by have := HN1.out; omega)⟩
              obtain ⟨bb, o, hp, hbl, hr⟩ := (HTS.out.cs.below HBW.out).at hy
              subst hp
              have HY := Lib.hid hy
              have HMY := Lib.hid (HMC.out y (List.mem_of_getElem? hy))
              have x0 : wr.cell? ⟨bb, o + k * 6, none⟩ = some (.int .i64 y.fl) := hr 0 _ rfl
              have x1 : wr.cell? ⟨bb, o + k * 6 + 1, none⟩ = some (.int .i64 y.dy) := hr 1 _ rfl
              have x2 : wr.cell? ⟨bb, o + k * 6 + 2, none⟩ = some (.int .i64 y.va) := hr 2 _ rfl
              have x3 : wr.cell? ⟨bb, o + k * 6 + 3, none⟩ = some (.int .i64 y.st) := hr 3 _ rfl
              have x4 : wr.cell? ⟨bb, o + k * 6 + 4, none⟩ = some (.int .i64 y.ho) := hr 4 _ rfl
              have x5 : wr.cell? ⟨bb, o + k * 6 + 5, none⟩ = some (.int .u64 y.nx) := hr 5 _ rfl
              have y0 : wr.cell? ⟨w.heap.size, 0, none⟩ = some (.int .u64 t.num) := hc 0
              have y3 : wr.cell? ⟨w.heap.size, 3, none⟩ = some (.slice (some ⟨bb, o, none⟩) n1 z1) := hc 3
              have hgl := block_lt HRW.out
              obtain ⟨q, hq⟩ : ∃ q, Tkt.cpnB t.num y = q := ⟨_, rfl⟩
              rw [hq] at HMY
              have HQ := Lib.hid hq
              clear hy hr hq
              go_upto_region 10 with fail
              have hL := @Later.cell
              refine wp_region_later (by kernel_rfl) (by kernel_rfl) ?_
              repeat (go_big_quiet_step (first | (go_at_call 64; with_reducible exact later_call (HMY.out _))))
              refine wpQuiet_nil ?_
              rintro wz ⟨u', rfl⟩
              have HB5 := Lib.hid (HBW.out.trans (u'.prop.mono HBW.out.size))
              have HR5 := Lib.hid ((u'.prop.block _ (block_lt HRW.out)).trans HRW.out)
              generalize u'.val = w5 at *
              clear x0 x1 x2 x3 x4 x5 y0 y3 hL hgl hc
              cases q
              · have HF : Hid (bv = false) := Lib.hid (by
                  rw [HMB.out]
                  have h1 : t.cs.all (Tkt.cpnB t.num) = false := by rw [List.all_eq_false]; exact ⟨y, List.mem_of_getElem? HY.out, by rw [HQ.out]; simp⟩
                  rw [h1]; simp)
                go_wp2
                go_ret
                exact ⟨ret_bool HF.out.symm, HB5.out⟩
              · go_wp2
                go_roundw
                case rel =>
                  refine ⟨k + 1, by omega, by go_num, HB5.out, HR5.out, fun l y2 hl hy2 => ?_⟩
                  rcases Nat.lt_or_ge l k with h | h
                  · exact HALL.out l y2 h hy2
                  · obtain rfl : l = k := by omega
                    have h2 := HY.out.symm.trans hy2
                    injection h2 with h2
                    rw [← h2]; exact HQ.out
                case measure => simp [intOf]; omega
            · obtain rfl : n1 = k := by omega
              clear hlt
              have HAL : Hid (t.cs.all (Tkt.cpnB t.num) = true) := Lib.hid (by
                rw [List.all_eq_true]
                intro y hy
                obtain ⟨l, hl⟩ := List.getElem?_of_mem hy
                exact HALL.out l y (by have := (List.getElem?_eq_some_iff.1 hl).1; have := HN1.out; omega) hl)
              go_wp2_with fail
              clear hc
              go_loopw [4] (fun i wx => ∃ (k : Nat) (L : Int), k ≤ n2 ∧ i = .int .i64 k ∧ Below w.heap.size w wx ∧ wx.heap[w.heap.size]? = some (.cells #[.int .u64 t.num, .string t.loc, .int .i64 t.iss, .slice p1 n1 z1, .slice p2 n2 z2, .int .u64 t.prev, .int .u64 t.org, .int .u64 t.fst, .int .i64 t.vou, .int .i64 t.posts, .slice p3 n3 z3] 27 (0, 0)) ∧ Tkt.taxB 1 t.ts = Tkt.taxB L (t.ts.drop k) ∧ (k = 0 → L = 1) ∧ (∀ j, k = j + 1 → ∃ pv, t.ts[j]? = some pv ∧ 1 ≤ pv.cd ∧ pv.cd ≤ 99 ∧ L = pv.cd + 1)) (fun i _ => n2 - (intOf i).toNat)
              case atStart => exact ⟨0, 1, Nat.zero_le _, rfl, HBW.out, HRW.out, rfl, fun _ => rfl, fun j h => absurd h (by omega)⟩
              case round =>
                obtain ⟨k, L, hk, rfl, hbx, hrx, htx, hl0, hlj⟩ := hrel
                have HBX := Lib.hid hbx; have HRX := Lib.hid hrx; have HTX := Lib.hid htx; have HL0 := Lib.hid hl0; have HLJ := Lib.hid hlj
                clear hbx hrx htx hl0 hlj
                have hn4b : n2 ≤ 4 := HL4.out.2
                have hc := fun j => cell_of_row wr w.heap.size j _ _ _ HRX.out
                by_cases hlt : k < n2
                · obtain ⟨y, hy⟩ : ∃ y, t.ts[k]? = some y := ⟨_, List.getElem?_eq_getElem (by have := HN2.out; omega)⟩
                  have HD : Hid (t.ts.drop k = y :: t.ts.drop (k + 1)) := Lib.hid (by obtain ⟨h1, h2⟩ := List.getElem?_eq_some_iff.1 hy; rw [← h2]; exact List.drop_eq_getElem_cons h1)
                  obtain ⟨bb, o, hp, hbl, hr⟩ := (HTS.out.ts.below HBX.out).at hy
                  have HPV : Hid (∀ j pv, k = j + 1 → t.ts[j]? = some pv → wr.cell? ⟨bb, o + j * 2, none⟩ = some (.int .i64 pv.cd)) := Lib.hid (fun j pv hkj hpv => by
                    obtain ⟨bb2, o2, hp2, hbl2, hr2⟩ := (HTS.out.ts.below HBX.out).at hpv
                    rw [hp] at hp2
                    injection hp2 with hp2
                    injection hp2 with hp3 hp4
                    subst hp3; subst hp4
                    exact hr2 0 _ rfl)
                  subst hp
                  have HY := Lib.hid hy
                  have x0 : wr.cell? ⟨bb, o + k * 2, none⟩ = some (.int .i64 y.cd) := hr 0 _ rfl
                  have x1 : wr.cell? ⟨bb, o + k * 2 + 1, none⟩ = some (.int .i64 y.am) := hr 1 _ rfl
                  clear hy hr
                  go_upto_region 16 with fail
                  have HBL := Lib.hid hbl
                  have hb5 := (Below.refl wr.heap.size wr).alloc (Nat.le_refl _) (.cells #[.int .i64 y.cd, .int .i64 y.am] 48 (0, 0))
                  have HB5 := Lib.hid (HBX.out.trans (hb5.mono HBX.out.size))
                  have HR5 := Lib.hid (row_after (o' := (.cells #[.int .i64 y.cd, .int .i64 y.am] 48 (0, 0))) HRX.out)
                  have HTR := Lib.hid (new_rowW wr (.cells #[.int .i64 y.cd, .int .i64 y.am] 48 (0, 0)) _ rfl)
                  have HPV5 : Hid (∀ j pv, k = j + 1 → t.ts[j]? = some pv → (wr.alloc (.cells #[.int .i64 y.cd, .int .i64 y.am] 48 (0, 0))).cell? ⟨bb, o + j * 2, none⟩ = some (.int .i64 pv.cd)) := Lib.hid (fun j pv h1 h2 => (hb5.cell (p := ⟨bb, o + j * 2, none⟩) HBL.out).trans (HPV.out j pv h1 h2))
                  have hbl5 : bb < (wr.alloc (.cells #[.int .i64 y.cd, .int .i64 y.am] 48 (0, 0))).heap.size := Nat.lt_of_lt_of_le HBL.out hb5.size
                  clear x0 x1 hc hb5 hbl
                  generalize wr.heap.size = ge at *
                  generalize wr.alloc (.cells #[.int .i64 y.cd, .int .i64 y.am] 48 (0, 0)) = w5 at *
                  have y0 : w5.cell? ⟨ge, 0, none⟩ = some (.int .i64 y.cd) := cell_of_row _ _ 0 _ _ _ HTR.out
                  have y1 : w5.cell? ⟨ge, 1, none⟩ = some (.int .i64 y.am) := cell_of_row _ _ 1 _ _ _ HTR.out
                  have y4 : w5.cell? ⟨w.heap.size, 4, none⟩ = some (.slice (some ⟨bb, o, none⟩) n2 z2) := cell_of_row _ _ 4 _ _ _ HR5.out
                  have l0 := block_lt HTR.out
                  have l1 := block_lt HR5.out
                  have HSM := Lib.hid (fun W => rsome_any y.am W)
                  obtain ⟨sm, hsm⟩ : ∃ q, Tkt.someB y.am = q := ⟨_, rfl⟩
                  rw [hsm] at HSM
                  have HSB := Lib.hid hsm
                  clear hsm
                  have HBAD : Hid ((decide (L ≤ y.cd) && decide (y.cd ≤ 99) && sm) = false → bv = false) := Lib.hid (fun hq => by
                    rw [HMB.out, HTX.out, HD.out]
                    have h1 : Tkt.taxB L (y :: t.ts.drop (k + 1)) = false := by show (decide (L ≤ y.cd) && decide (y.cd ≤ 99) && Tkt.someB y.am && _) = false; rw [HSB.out, hq]; rfl
                    rw [h1]; simp)
                  have HGOOD : Hid ((decide (L ≤ y.cd) && decide (y.cd ≤ 99) && sm) = true → Tkt.taxB 1 t.ts = Tkt.taxB (y.cd + 1) (t.ts.drop (k + 1))) := Lib.hid (fun hq => by
                    rw [HTX.out, HD.out]
                    show (decide (L ≤ y.cd) && decide (y.cd ≤ 99) && Tkt.someB y.am && _) = _
                    rw [HSB.out, hq]; rfl)
                  have hL := @Later.cell
                  by_cases h1 : y.cd < 1
                  · have d1 : decide (y.cd < 1) = true := decide_eq_true h1
                    have HLL : Hid (1 ≤ L) := Lib.hid (by cases k with | zero => rw [HL0.out rfl]; exact Int.le_refl _ | succ j => obtain ⟨pv, -, k1, -, k2⟩ := HLJ.out j rfl; omega)
                    have HF : Hid (bv = false) := Lib.hid (HBAD.out (by rw [show decide (L ≤ y.cd) = false from decide_eq_false (by have := HLL.out; omega)]; simp only [Bool.false_and]))
                    refine wp_region_later (by kernel_rfl) (by kernel_rfl) ?_
                    repeat (go_big_quiet_step (first | (go_at_call 65; with_reducible exact later_same (HSM.out _))))
                    refine wpQuiet_nil ?_
                    rintro wz ⟨u', rfl⟩
                    have HB6 := Lib.hid (HB5.out.trans (u'.prop.mono HB5.out.size))
                    have HR6 := Lib.hid ((u'.prop.block _ (block_lt HR5.out)).trans HR5.out)
                    generalize u'.val = w6 at *
                    clear y0 y1 y4 l0 l1 hL
                    go_wp2
                    go_ret
                    exact ⟨ret_bool HF.out.symm, HB6.out⟩
                  have d1 : decide (y.cd < 1) = false := decide_eq_false h1
                  by_cases h2 : 99 < y.cd
                  · have d2 : decide (99 < y.cd) = true := decide_eq_true h2
                    have HF : Hid (bv = false) := Lib.hid (HBAD.out (by rw [show decide (y.cd ≤ 99) = false from decide_eq_false (by omega)]; simp only [Bool.false_and, Bool.and_false]))
                    refine wp_region_later (by kernel_rfl) (by kernel_rfl) ?_
                    repeat (go_big_quiet_step (first | (go_at_call 65; with_reducible exact later_same (HSM.out _))))
                    refine wpQuiet_nil ?_
                    rintro wz ⟨u', rfl⟩
                    have HB6 := Lib.hid (HB5.out.trans (u'.prop.mono HB5.out.size))
                    have HR6 := Lib.hid ((u'.prop.block _ (block_lt HR5.out)).trans HR5.out)
                    generalize u'.val = w6 at *
                    clear y0 y1 y4 l0 l1 hL
                    go_wp2
                    go_ret
                    exact ⟨ret_bool HF.out.symm, HB6.out⟩
                  have d2 : decide (99 < y.cd) = false := decide_eq_false h2
                  have HYB : Hid (1 ≤ y.cd ∧ y.cd ≤ 99) := Lib.hid (by omega)
                  clear h1 h2
                  cases k with
                  | zero =>
                    have d3 : decide ((0 : Int) < ((0 : Nat) : Int)) = false := rfl
                    have d3b : decide (0 < (0 : Nat)) = false := rfl
                    have HL1 : Hid (L = 1) := Lib.hid (HL0.out rfl)
                    cases sm
                    · have HF : Hid (bv = false) := Lib.hid (HBAD.out (by simp only [Bool.and_false]))
                      refine wp_region_later (by kernel_rfl) (by kernel_rfl) ?_
                      repeat (go_big_quiet_step (first | (go_at_call 65; with_reducible exact later_same (HSM.out _))))
                      refine wpQuiet_nil ?_
                      rintro wz ⟨u', rfl⟩
                      have HB6 := Lib.hid (HB5.out.trans (u'.prop.mono HB5.out.size))
                      have HR6 := Lib.hid ((u'.prop.block _ (block_lt HR5.out)).trans HR5.out)
                      generalize u'.val = w6 at *
                      clear y0 y1 y4 l0 l1 hL
                      go_wp2
                      go_ret
                      exact ⟨ret_bool HF.out.symm, HB6.out⟩
                    · have HGD := Lib.hid (HGOOD.out (by rw [decide_eq_true (by have h1 := HL1.out; have h2 := HYB.out; omega : L ≤ y.cd), decide_eq_true HYB.out.2]; rfl))
                      refine wp_region_later (by kernel_rfl) (by kernel_rfl) ?_
                      repeat (go_big_quiet_step (first | (go_at_call 65; with_reducible exact later_same (HSM.out _))))
                      refine wpQuiet_nil ?_
                      rintro wz ⟨u', rfl⟩
                      have HB6 := Lib.hid (HB5.out.trans (u'.prop.mono HB5.out.size))
                      have HR6 := Lib.hid ((u'.prop.block _ (block_lt HR5.out)).trans HR5.out)
                      generalize u'.val = w6 at *
                      clear y0 y1 y4 l0 l1 hL
                      go_wp2
                      go_roundw
                      case rel =>
                        refine ⟨0 + 1, y.cd + 1, by omega, by go_num, HB6.out, HR6.out, HGD.out, fun h => absurd h (by omega), fun j hj => ?_⟩
                        obtain rfl : 0 = j := by omega
                        exact ⟨y, HY.out, HYB.out.1, HYB.out.2, rfl⟩
                      case measure => simp [intOf]; omega
                  | succ j =>
                    obtain ⟨pv, hpv, hp1, hp2, hpl⟩ := HLJ.out j rfl
                    have yp := HPV5.out j pv rfl hpv
                    have d3 : decide ((0 : Int) < ((j + 1 : Nat) : Int)) = true := decide_eq_true (by omega)
                    have d3b : decide (0 < j + 1) = true := decide_eq_true (by omega)
                    have hwr : IntKind.i64.wrap (((j + 1 : Nat) : Int) - 1) = (j : Int) := by rw [IntKind.wrap_i64]; omega
                    have hwr2 : IntKind.i64.wrap ((j : Int) + 1 - 1) = (j : Int) := by rw [IntKind.wrap_i64]; omega
                    have HPL := Lib.hid hpl
                    have HPB : Hid (1 ≤ pv.cd ∧ pv.cd ≤ 99) := Lib.hid ⟨hp1, hp2⟩
                    clear hpv hp1 hp2 hpl
                    by_cases h3 : y.cd ≤ pv.cd
                    · have d4 : decide (y.cd ≤ pv.cd) = true := decide_eq_true h3
                      have HF : Hid (bv = false) := Lib.hid (HBAD.out (by rw [show decide (L ≤ y.cd) = false from decide_eq_false (by have := HPL.out; omega)]; simp only [Bool.false_and]))
                      refine wp_region_later (by kernel_rfl) (by kernel_rfl) ?_
                      repeat (go_big_quiet_step (first | (go_at_call 65; with_reducible exact later_same (HSM.out _))))
                      refine wpQuiet_nil ?_
                      rintro wz ⟨u', rfl⟩
                      have HB6 := Lib.hid (HB5.out.trans (u'.prop.mono HB5.out.size))
                      have HR6 := Lib.hid ((u'.prop.block _ (block_lt HR5.out)).trans HR5.out)
                      generalize u'.val = w6 at *
                      clear y0 y1 y4 l0 l1 hL
                      go_wp2
                      go_ret
                      exact ⟨ret_bool HF.out.symm, HB6.out⟩
                    · have d4 : decide (y.cd ≤ pv.cd) = false := decide_eq_false h3
                      have HLY : Hid (L ≤ y.cd) := Lib.hid (by have := HPL.out; omega)
                      clear h3
                      cases sm
                      · have HF : Hid (bv = false) := Lib.hid (HBAD.out (by simp only [Bool.and_false]))
                        refine wp_region_later (by kernel_rfl) (by kernel_rfl) ?_
                        repeat (go_big_quiet_step (first | (go_at_call 65; with_reducible exact later_same (HSM.out _))))
                        refine wpQuiet_nil ?_
                        rintro wz ⟨u', rfl⟩
                        have HB6 := Lib.hid (HB5.out.trans (u'.prop.mono HB5.out.size))
                        have HR6 := Lib.hid ((u'.prop.block _ (block_lt HR5.out)).trans HR5.out)
                        generalize u'.val = w6 at *
                        clear y0 y1 y4 l0 l1 hL
                        go_wp2
                        go_ret
                        exact ⟨ret_bool HF.out.symm, HB6.out⟩
                      · have HGD := Lib.hid (HGOOD.out (by rw [decide_eq_true HLY.out, decide_eq_true HYB.out.2]; rfl))
                        refine wp_region_later (by kernel_rfl) (by kernel_rfl) ?_
                        repeat (go_big_quiet_step (first | (go_at_call 65; with_reducible exact later_same (HSM.out _))))
                        refine wpQuiet_nil ?_
                        rintro wz ⟨u', rfl⟩
                        have HB6 := Lib.hid (HB5.out.trans (u'.prop.mono HB5.out.size))
                        have HR6 := Lib.hid ((u'.prop.block _ (block_lt HR5.out)).trans HR5.out)
                        generalize u'.val = w6 at *
                        clear y0 y1 y4 l0 l1 hL
                        go_wp2
                        go_roundw
                        case rel =>
                          refine ⟨j + 1 + 1, y.cd + 1, by omega, by go_num, HB6.out, HR6.out, HGD.out, fun h => absurd h (by omega), fun j' hj => ?_⟩
                          obtain rfl : j + 1 = j' := by omega
                          exact ⟨y, HY.out, HYB.out.1, HYB.out.2, rfl⟩
                        case measure => simp [intOf]; omega
                · obtain rfl : n2 = k := by omega
                  clear hlt
                  have HTT : Hid (Tkt.taxB 1 t.ts = true) := Lib.hid (by rw [HTX.out, List.drop_of_length_le (by have := HN2.out; omega)]; rfl)
                  obtain ⟨f1, f2⟩ := row_loT 11 HRX.out rfl rfl
                  have HOWN : Hid (bv = Tkt.histB 0 t) := Lib.hid (by rw [HMB.out, HLB.out, HAL.out, HTT.out]; simp)
                  go_wp2_with (go_at_call 36; refine (HTH.out _ HBX.out (by have h1 := HN1.out; have h2 := HL4.out; omega) (HIS.out HE3.out)).mono ?_; rintro e wt ⟨v, rfl, -, hbt⟩; have HBT := Lib.hid (HBX.out.trans (hbt.mono HBX.out.size)); clear hbt)
                  go_ret
                  exact ⟨ret_bool HOWN.out.symm, HBT.out⟩
        · have HF : Hid (bv = false) := Lib.hid (by
            rw [HMB.out]
            have h1 : Tkt.lensB t = false := by
              unfold Tkt.lensB
              rw [← HN1.out, ← HN2.out, ← HN3.out]
              cases hq : (decide (1 ≤ n1) && decide (n1 ≤ 4) && decide (n2 ≤ 4) && decide (n3 ≤ 60))
              · rfl
              · simp only [Bool.and_eq_true, decide_eq_true_eq] at hq; exact absurd ⟨hq.1.1.1, hq.1.1.2, hq.1.2, hq.2⟩ hl
            rw [h1]; simp)
          have h2 : (n1 : Int) < 1 ∨ (¬ (n1 : Int) < 1 ∧ 4 < (n1 : Int)) ∨ (¬ (n1 : Int) < 1 ∧ ¬ 4 < (n1 : Int) ∧ 4 < (n2 : Int)) ∨ (¬ (n1 : Int) < 1 ∧ ¬ 4 < (n1 : Int) ∧ ¬ 4 < (n2 : Int) ∧ 60 < (n3 : Int)) := by omega
          clear hl
          rcases h2 with g1 | ⟨g1, g2⟩ | ⟨g1, g2, g3⟩ | ⟨g1, g2, g3, g4⟩
          all_goals
            go_wp2
            go_ret
            exact ⟨ret_bool HF.out.symm, HB.out⟩
  · have HF : Hid (bv = false) := Lib.hid (by
      rw [HMB.out]
      have h1 : (b1 && b2 && b3 && b4 && !b5 && !b6 && !b7 && !b8) = false := by simpa using hh
      rw [h1]; simp only [Bool.false_and])
    have h2 : b1 = false ∨ (b1 = true ∧ b2 = false) ∨ (b1 = true ∧ b2 = true ∧ b3 = false) ∨ (b1 = true ∧ b2 = true ∧ b3 = true ∧ b4 = false) ∨ (b1 = true ∧ b2 = true ∧ b3 = true ∧ b4 = true ∧ b5 = true) ∨ (b1 = true ∧ b2 = true ∧ b3 = true ∧ b4 = true ∧ b5 = false ∧ b6 = true) ∨ (b1 = true ∧ b2 = true ∧ b3 = true ∧ b4 = true ∧ b5 = false ∧ b6 = false ∧ b7 = true) ∨ (b1 = true ∧ b2 = true ∧ b3 = true ∧ b4 = true ∧ b5 = false ∧ b6 = false ∧ b7 = false ∧ b8 = true) := by
      revert hh; cases b1 <;> cases b2 <;> cases b3 <;> cases b4 <;> cases b5 <;> cases b6 <;> cases b7 <;> cases b8 <;> simp
    clear hh
    rcases h2 with rfl | ⟨rfl, rfl⟩ | ⟨rfl, rfl, rfl⟩ | ⟨rfl, rfl, rfl, rfl⟩ | ⟨rfl, rfl, rfl, rfl, rfl⟩ | ⟨rfl, rfl, rfl, rfl, rfl, rfl⟩ | ⟨rfl, rfl, rfl, rfl, rfl, rfl, rfl⟩ | ⟨rfl, rfl, rfl, rfl, rfl, rfl, rfl, rfl⟩
    all_goals
      go_wp2_with (first | (go_at_call 61; (first | (with_reducible refine (HNU.out _).mono ?_) | (with_reducible refine (HNF.out _).mono ?_) | (with_reducible refine (HNP.out _).mono ?_) | (with_reducible refine (HNO.out _).mono ?_)); rintro e wn ⟨rfl, hbn⟩; have HB := Lib.hid (HB.out.trans (hbn.mono HB.out.size)); have HR := Lib.hid ((hbn.block _ (block_lt HR.out)).trans HR.out); have hc := fun j => cell_of_row _ w.heap.size j _ _ _ HR.out; clear hbn) | (go_at_call 62; refine (HLO.out _).mono ?_; rintro e wn ⟨rfl, rfl⟩) | (go_at_call 63; refine (HDY.out _).mono ?_; rintro e wn ⟨rfl, rfl⟩))
      go_ret
      exact ⟨ret_bool HF.out.symm, HB.out⟩
end Go.Proofs.Ytmadkfahkbdibaa
