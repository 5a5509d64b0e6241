/- Contracts of the report: days, within, rising. -/
import Derived.Test.YtajpggnmhkpbkaaRfw30
import Derived.Test.YtajpggnmhkpbkaaRfw27
import Derived.Test.YtajpggnmhkpbkaaRfw28
import Derived.Test.YtajpggnmhkpbkaaRfw9
import Derived.Test.YtajpggnmhkpbkaaRfw8
import Derived.Deep.QuietTactic
import Derived.BigQuiet

set_option linter.unusedVariables false
set_option linter.unusedSimpArgs false
namespace Go.Proofs.Ytajpggnmhkpbkaa
open Go.RowKit

theorem pDays_any (a b : Int) (w : World) : Calls Try.prog 37 #[.int .i64 a, .int .i64 b] w fun e w' => e = .returned (.bool (Rep.days a b)) ∧ w = w' := by
  have H : Hid (Rep.days a b = (decide (0 ≤ a) && decide (a ≤ b) && decide (b ≤ 1000000))) := Lib.hid rfl
  go_enter Try.func37, Try.ntmps37
  by_cases h0 : 0 ≤ a
  · by_cases h1 : a ≤ b
    · by_cases h2 : b ≤ 1000000 <;> (go_wp2; go_ret; exact ⟨ret_bool (by rw [H.out]; simp [h0, h1, h2] <;> (intros; omega)), rfl⟩)
    · go_wp2; go_ret; exact ⟨ret_bool (by rw [H.out]; simp [h0, h1] <;> (intros; omega)), rfl⟩
  · go_wp2; go_ret; exact ⟨ret_bool (by rw [H.out]; simp [h0] <;> (intros; omega)), rfl⟩
theorem rDays_any (a b : Int) (w : World) : Calls Try.prog 69 #[.int .i64 a, .int .i64 b] w fun e w' => e = .returned (.bool (Rep.days a b)) ∧ w = w' := by
  have H : Hid (Rep.days a b = (decide (0 ≤ a) && decide (a ≤ b) && decide (b ≤ 1000000))) := Lib.hid rfl
  go_enter Try.func69, Try.ntmps69
  by_cases h0 : 0 ≤ a
  · by_cases h1 : a ≤ b
    · by_cases h2 : b ≤ 1000000 <;> (go_wp2; go_ret; exact ⟨ret_bool (by rw [H.out]; simp [h0, h1, h2] <;> (intros; omega)), rfl⟩)
    · go_wp2; go_ret; exact ⟨ret_bool (by rw [H.out]; simp [h0, h1] <;> (intros; omega)), rfl⟩
  · go_wp2; go_ret; exact ⟨ret_bool (by rw [H.out]; simp [h0] <;> (intros; omega)), rfl⟩
theorem within_any (x : Pst) (a b : Int) (w : World) : Calls Try.prog 42 #[.agg #[.int .i64 x.d, .int .u64 x.t, .int .i64 x.s, .int .i64 x.k, .int .i64 x.a0, .int .i64 x.a1, .int .i64 x.a2, .int .i64 x.a3, .int .i64 x.a4, .int .i64 x.a5], .int .i64 a, .int .i64 b] w fun e w' => e = .returned (.bool (Rep.within a b x)) ∧ Below w.heap.size w w' := by
  have H : Hid (Rep.within a b x = (decide (a ≤ x.d) && decide (x.d ≤ b))) := Lib.hid rfl
  go_enter Try.func42, Try.ntmps42
  by_cases h0 : a ≤ x.d
  · by_cases h1 : x.d ≤ b <;> (go_wp2; go_ret; exact ⟨ret_bool (by rw [H.out]; simp [h0, h1] <;> (intros; omega)), (Below.refl _ _).alloc (Nat.le_refl _) _⟩)
  · go_wp2; go_ret; exact ⟨ret_bool (by rw [H.out]; simp [h0] <;> (intros; omega)), (Below.refl _ _).alloc (Nat.le_refl _) _⟩

theorem mk1_any (x : Pst) (a b : Int) (ga gb : Nat) (w : World) (ha : w.cell? ⟨ga, 0, none⟩ = some (.int .i64 a)) (hb : w.cell? ⟨gb, 0, none⟩ = some (.int .i64 b)) :
    Calls Try.prog 41 #[.agg #[.int .i64 x.d, .int .u64 x.t, .int .i64 x.s, .int .i64 x.k, .int .i64 x.a0, .int .i64 x.a1, .int .i64 x.a2, .int .i64 x.a3, .int .i64 x.a4, .int .i64 x.a5], .pointer (some ⟨ga, 0, none⟩), .pointer (some ⟨gb, 0, none⟩)] w fun e w' => e = .returned (.bool (Rep.within a b x)) ∧ Below w.heap.size w w' := by
  have hga := cell_blockW ha
  have hgb := cell_blockW hb
  simp only at hga hgb
  have H := Lib.hid (fun W => within_any x a b W)
  go_enter Try.func41, Try.ntmps41
  go_wp2_with fail
  refine (H.out _).mono ?_
  rintro e w1 ⟨rfl, hb1⟩
  go_wp2
  go_ret
  exact ⟨rfl, ((Below.refl w.heap.size w).alloc (Nat.le_refl _) _).trans (hb1.mono (by simp))⟩

theorem ps_at {w : World} {p : Option Addr} {n cap : Nat} {l : List Pst} (h : PS w (.slice p n cap) l) {k : Nat} {x : Pst} (hx : l[k]? = some x) : ∃ b o, p = some ⟨b, o, none⟩ ∧ b < w.heap.size ∧ PAt w b (o + k * 10) x := by
  obtain ⟨p', cap', e, h2, h3, h4, h5⟩ := h
  injection e with e1 e2 e3
  subst e1
  obtain ⟨b, o, e, hb, hc⟩ := h5 (by intro h; subst h; cases hx)
  exact ⟨b, o, e, hb, hc k x hx⟩
theorem ps_wf {w : World} {v : Value} {l : List Pst} (h : PS w v l) : WF l := by
  obtain ⟨p', cap', e, h2, h3, h4, h5⟩ := h
  exact h4
theorem ps_len {w : World} {p : Option Addr} {n cap : Nat} {l : List Pst} (h : PS w (.slice p n cap) l) : n = l.length ∧ n ≤ cap ∧ cap ≤ 9223372036854775807 := by
  obtain ⟨p', cap', e, h2, h3, h4, h5⟩ := h
  injection e with e1 e2 e3
  subst e3
  simp only [maxLen] at h3
  exact ⟨e2, by omega, h3⟩

set_option maxRecDepth 4000 in
set_option maxHeartbeats 2000000 in
theorem rising_any (l : List Pst) (bv : Bool) (hbv : bv = true ↔ Rep.RisP l) (p : Option Addr) (n cap : Nat) (w : World) (hs : PS w (.slice p n cap) l) :
    Calls Try.prog 38 #[.slice p n cap] w fun e w' => e = .returned (.bool bv) ∧ Below w.heap.size w w' := by
  have HPS := Lib.hid hs; have HBV := Lib.hid hbv; have HWF := Lib.hid (ps_wf hs); have HN := Lib.hid (ps_len hs).1
  have hn1 := (ps_len hs).2.1
  have hn2 := (ps_len hs).2.2
  clear hs hbv
  go_enter Try.func38, Try.ntmps38
  go_wp2
  go_loopw [7] (fun i wr => ∃ k : Nat, k ≤ n ∧ i = .int .i64 k ∧ Below w.heap.size w wr ∧ (∀ z ∈ l.take k, z.may = true) ∧ ∀ (i : Nat) (x y : Pst), i + 1 < k → l[i]? = some x → l[i + 1]? = some y → lessP x y = true) (fun i _ => n - (intOf i).toNat)
  case atStart => exact ⟨0, Nat.zero_le _, rfl, Below.refl _ _, fun z hz => absurd hz (by simp), fun i x y hi => absurd hi (by omega)⟩
  case round =>
    obtain ⟨k, hk, rfl, hbw, hmay, hless⟩ := hrel
    have HMAY := Lib.hid hmay; have HLESS := Lib.hid hless; have HBW := Lib.hid hbw
    clear hmay hless
    by_cases hlt : k < n
    · obtain ⟨x, hx⟩ : ∃ x, l[k]? = some x := ⟨_, List.getElem?_eq_getElem (by have := HN.out; omega)⟩
      obtain ⟨b, o, rfl, hbl, hat⟩ := ps_at (HPS.out.below hbw) hx
      have HX := Lib.hid hx
      have HU := Lib.hid (u64_bd (HWF.out x (List.mem_of_getElem? hx)).2.1)
      obtain ⟨q, hq⟩ : ∃ q, x.may = q := ⟨_, rfl⟩
      have HQ := Lib.hid hq
      have HM : Hid (∀ W, Calls Try.prog 62 #[.agg #[.int .i64 x.d, .int .u64 x.t, .int .i64 x.s, .int .i64 x.k, .int .i64 x.a0, .int .i64 x.a1, .int .i64 x.a2, .int .i64 x.a3, .int .i64 x.a4, .int .i64 x.a5]] W fun e w' => e = .returned (.bool q) ∧ Below W.heap.size W w') := Lib.hid (fun W => by
        have := may_any x.d x.t x.s x.k x.a0 x.a1 x.a2 x.a3 x.a4 x.a5 HU.out.1 HU.out.2 W
        rw [show Post.may x.d x.t x.s x.k [x.a0, x.a1, x.a2, x.a3, x.a4, x.a5] = q from hq] at this
        exact this)
      unfold PAt at hat
      obtain ⟨c0, c1, c2, c3, c4, c5, c6, c7, c8, c9⟩ := hat
      clear hx hq
      go_wp2
      have hrow := new_row wr (.cells #[.int .i64 x.d, .int .u64 x.t, .int .i64 x.s, .int .i64 x.k, .int .i64 x.a0, .int .i64 x.a1, .int .i64 x.a2, .int .i64 x.a3, .int .i64 x.a4, .int .i64 x.a5] 68 (0, 0)) _ rfl
      have HB0 := Lib.hid (hbw.alloc hbw.size (.cells #[.int .i64 x.d, .int .u64 x.t, .int .i64 x.s, .int .i64 x.k, .int .i64 x.a0, .int .i64 x.a1, .int .i64 x.a2, .int .i64 x.a3, .int .i64 x.a4, .int .i64 x.a5] 68 (0, 0)))
      have HBR := Lib.hid ((Below.refl wr.heap.size wr).alloc (Nat.le_refl _) (.cells #[.int .i64 x.d, .int .u64 x.t, .int .i64 x.s, .int .i64 x.k, .int .i64 x.a0, .int .i64 x.a1, .int .i64 x.a2, .int .i64 x.a3, .int .i64 x.a4, .int .i64 x.a5] 68 (0, 0)))
      clear c0 c1 c2 c3 c4 c5 c6 c7 c8 c9 hbw
      generalize wr.alloc (.cells #[.int .i64 x.d, .int .u64 x.t, .int .i64 x.s, .int .i64 x.k, .int .i64 x.a0, .int .i64 x.a1, .int .i64 x.a2, .int .i64 x.a3, .int .i64 x.a4, .int .i64 x.a5] 68 (0, 0)) = W0 at *
      have hgl := block_lt hrow
      have HPG := Lib.hid (fun (k : Nat) (y : Pst) (h : l[k]? = some y) => ps_at (HPS.out.below HB0.out) h)
      have hcp := fun j => cell_of_row W0 _ j _ _ _ hrow
      clear hrow HBR
      generalize wr.heap.size = gp at *
      have hL := @Later.cell
      cases q
      · have HF : Hid (bv = false) := Lib.hid (by
          cases hbv : bv
          · rfl
          · have := (HBV.out.1 hbv).1 x (List.mem_of_getElem? HX.out)
            rw [HQ.out] at this
            cases this)
        refine wp_region_later (by kernel_rfl) (by kernel_rfl) ?_
        repeat (go_big_quiet_step (first | (go_at_call 62; with_reducible exact later_call (HM.out _))))
        refine wpQuiet_nil ?_
        rintro w2 ⟨u, rfl⟩
        go_wp2
        go_ret
        exact ⟨ret_bool HF.out.symm, HB0.out.trans (u.prop.mono HB0.out.size)⟩
      · by_cases hk0 : k = 0
        · subst hk0
          have hG : decide ((0 : Int) < ((0 : Nat) : Int)) = false := rfl
          refine wp_region_later (by kernel_rfl) (by kernel_rfl) ?_
          repeat (go_big_quiet_step (first | (go_at_call 62; with_reducible exact later_call (HM.out _))))
          refine wpQuiet_nil ?_
          rintro w2 ⟨u, rfl⟩
          go_wp2
          go_roundw
          case rel =>
            refine ⟨1, by omega, by go_num, HB0.out.trans (u.prop.mono HB0.out.size), fun z hz => ?_, fun i x y hi => absurd hi (by omega)⟩
            rw [List.take_add_one, HX.out] at hz
            have : z = x := by simpa using hz
            rw [this]; exact HQ.out
          case measure => simp [intOf]; omega
        · obtain ⟨j, hj⟩ : ∃ j, j + 1 = k := ⟨k - 1, by omega⟩
          obtain ⟨y, hy⟩ : ∃ y, l[j]? = some y := ⟨_, List.getElem?_eq_getElem (by have := HN.out; omega)⟩
          obtain ⟨b2, o2, e2, hb2, hat⟩ := HPG.out j y hy
          injection e2 with e2
          injection e2 with e2 e3
          subst e2; subst e3
          have HY := Lib.hid hy
          obtain ⟨q2, hq2⟩ : ∃ q2, lessP y x = q2 := ⟨_, rfl⟩
          have HQ2 := Lib.hid hq2
          have HLS : Hid (∀ W, Calls Try.prog 63 #[.agg #[.int .i64 y.d, .int .u64 y.t, .int .i64 y.s, .int .i64 y.k, .int .i64 y.a0, .int .i64 y.a1, .int .i64 y.a2, .int .i64 y.a3, .int .i64 y.a4, .int .i64 y.a5], .agg #[.int .i64 x.d, .int .u64 x.t, .int .i64 x.s, .int .i64 x.k, .int .i64 x.a0, .int .i64 x.a1, .int .i64 x.a2, .int .i64 x.a3, .int .i64 x.a4, .int .i64 x.a5]] W fun e w' => e = .returned (.bool q2) ∧ Below W.heap.size W w') := Lib.hid (fun W => by
            have := less_any y x W
            rw [hq2] at this
            exact this)
          unfold PAt at hat
          obtain ⟨c0, c1, c2, c3, c4, c5, c6, c7, c8, c9⟩ := hat
          have hs1 : IntKind.i64.wrap ((k : Int) - 1) = (j : Int) := by rw [IntKind.wrap_i64]; omega
          have hG : decide ((0 : Int) < (k : Int)) = true := by simp; omega
          have hG2 : decide (0 < k) = true := by simp; omega
          have hjn : (j : Int) < (n : Int) := by omega
          have hj0 : (0 : Int) ≤ (j : Int) := by omega
          have HJ := Lib.hid hj
          clear hy hq2 hj
          cases q2
          all_goals
            refine wp_region_later (by kernel_rfl) (by kernel_rfl) ?_
            repeat (go_big_quiet_step (first | (go_at_call 62; with_reducible exact later_call (HM.out _)) | (go_at_call 63; with_reducible exact later_call (HLS.out _))))
            refine wpQuiet_nil ?_
            rintro w2 ⟨u, rfl⟩
            go_wp2
          · go_ret
            refine ⟨ret_bool ?_, HB0.out.trans (u.prop.mono HB0.out.size)⟩
            cases hbv : bv
            · rfl
            · have := (HBV.out.1 hbv).2 j y x HY.out (by rw [HJ.out]; exact HX.out)
              rw [HQ2.out] at this
              cases this
          · go_roundw
            case rel =>
              refine ⟨k + 1, by omega, by go_num, HB0.out.trans (u.prop.mono HB0.out.size), fun z hz => ?_, fun i x' y' hi h1 h2 => ?_⟩
              · rw [List.take_add_one, HX.out] at hz
                rcases List.mem_append.1 hz with hz | hz
                · exact HMAY.out z hz
                · have : z = x := by simpa using hz
                  rw [this]; exact HQ.out
              · rcases (by omega : i + 1 < k ∨ i + 1 = k) with h | h
                · exact HLESS.out i x' y' h h1 h2
                · have hij : i = j := by have := HJ.out; omega
                  subst hij
                  rw [HY.out] at h1; injection h1 with h1
                  rw [h, HX.out] at h2; injection h2 with h2
                  rw [← h1, ← h2]; exact HQ2.out
            case measure => simp [intOf]; omega
    · obtain rfl : k = n := by omega
      have HF : Hid (bv = true) := Lib.hid (HBV.out.2 ⟨fun z hz => HMAY.out z (by rw [List.take_of_length_le (by have := HN.out; omega)]; exact hz), fun i x y h1 h2 => HLESS.out i x y (by have := (List.getElem?_eq_some_iff.1 h2).1; have := HN.out; omega) h1 h2⟩)
      go_wp2
      go_ret
      exact ⟨ret_bool HF.out.symm, HBW.out⟩
end Go.Proofs.Ytajpggnmhkpbkaa
