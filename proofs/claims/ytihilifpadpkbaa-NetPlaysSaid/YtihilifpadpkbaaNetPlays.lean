/- NetPlays returns true for every k and every slice of acts, and leaves the memory that was there as it was. -/
import Derived.Test.YtihilifpadpkbaaNtV
import Derived.Test.YtihilifpadpkbaaNtK
import Derived.Test.YtihilifpadpkbaaLift
set_option linter.unusedVariables false
set_option linter.unusedSimpArgs false
namespace Go.Proofs.Ytihilifpadpkbaa.netPlays
open Go.ChangeShapes Go.WideShapes Go.ChangeAt Go.RowKit

set_option maxRecDepth 10000 in
theorem open_actsA {H : Type} {enc : TypeId × Value → H} {W : World} {held : Bool} {r : Reach} {b0 : Nat} {v : Value} {d : DataW H} {ps : List MemPlace} (hv : Value.okWide Try.prog W r b0 46 v) (h : DataW.Trod enc Try.prog W 0 (fun _ => true) held 46 v d ps) :
    ∃ p n cap l, v = .slice p n cap ∧ LS Am.cells 4 W (.slice p n cap) l ∧ ∀ y ∈ l, y.ok W.heap.size W := by
  obtain ⟨p0, n0, c0, rfl⟩ := okWide_slice Try.underlying46 hv
  obtain ⟨fuel, hf⟩ := h
  obtain ⟨l, h1, h2⟩ := open_acts (by simpa [Value.cells] using hf)
  exact ⟨p0, n0, c0, l, rfl, h1, h2⟩

set_option maxRecDepth 4000 in
set_option maxHeartbeats 4000000 in
theorem walk (k : Int) (p : Option Addr) (n cap : Nat) (l : List Am) (w : World) (hs : LS Am.cells 4 w (.slice p n cap) l) (hok : ∀ y ∈ l, y.ok w.heap.size w) :
    Calls Try.prog 5 #[.int .i64 k, .slice p n cap] w fun e w' => e = .returned (.bool true) ∧ Below w.heap.size w w' := by
  by_cases hk : k < 1 ∨ 64 < k
  · have HN := Lib.hid (nnew_bad k hk w)
    clear hs hok
    rcases hk with hk | hk
    · go_enter Try.func5, Try.ntmps5
      go_wp2_with (first | (go_at_call 10; refine HN.out.mono ?_; rintro e w1 ⟨rfl, rfl⟩) | (go_at_call 9; refine (known23_any _).mono ?_; rintro e w9 ⟨rfl, hb9⟩; have HB9 := Lib.hid hb9; clear hb9))
      go_ret
      exact ⟨rfl, HB9.out⟩
    · go_enter Try.func5, Try.ntmps5
      go_wp2_with (first | (go_at_call 10; refine HN.out.mono ?_; rintro e w1 ⟨rfl, rfl⟩) | (go_at_call 9; refine (known23_any _).mono ?_; rintro e w9 ⟨rfl, hb9⟩; have HB9 := Lib.hid hb9; clear hb9))
      go_ret
      exact ⟨rfl, HB9.out⟩
  · have hk1 : 1 ≤ k := by omega
    have hk2 : k ≤ 64 := by omega
    have hk0 : 0 < k := by omega
    have HNW := Lib.hid (nnew_any k hk1 hk2 w)
    have HPS := Lib.hid hs
    have HLN := Lib.hid hs.length.1
    have hn1 := hs.length.2.1
    have hn2 := hs.length.2.2
    unfold maxLen at hn2
    have HOK := Lib.hid hok
    have HMX : Hid (∀ y ∈ l, y.n1 ≤ 9223372036854775807 ∧ y.n2 ≤ 9223372036854775807) := Lib.hid (fun y hy => by
      have h1 := (hok y hy).l.length; have h2 := (hok y hy).p.length
      unfold maxLen at h1 h2
      omega)
    obtain ⟨bv, hbv⟩ : ∃ bv : Bool, bv = true ↔ (∀ x ∈ l, x.n1 ≤ 20 ∧ x.n2 ≤ 100) ∧ (l.length : Int) ≤ 40 := ⟨by classical exact decide ((∀ x ∈ l, x.n1 ≤ 20 ∧ x.n2 ≤ 100) ∧ (l.length : Int) ≤ 40), by simp⟩
    have HBV := Lib.hid hbv
    have HFW := Lib.hid (fun W h => few_any l 40 bv hbv p n cap W h HMX.out)
    clear hs hok hk hbv
    cases bv
    · go_enter Try.func5, Try.ntmps5
      go_wp2_with (first
        | (go_at_call 10; refine HNW.out.mono ?_; rintro e w1 ⟨rfl, hn, hb⟩; have HB1 := Lib.hid hb; clear hn hb)
        | (go_at_call 16; refine (HFW.out _ (HPS.out.below HB1.out)).mono ?_; rintro e w2 ⟨rfl, hb⟩; have HB2 := Lib.hid (HB1.out.trans (hb.mono HB1.out.size)); clear hb)
        | (go_at_call 9; refine (known23_any _).mono ?_; rintro e w9 ⟨rfl, hb9⟩; have HB9 := Lib.hid (HB2.out.trans (hb9.mono HB2.out.size)); clear hb9))
      go_ret
      exact ⟨rfl, HB9.out⟩
    · have HBQ := Lib.hid (HBV.out.1 rfl)
      have hl40 : n ≤ 40 := by have h1 := HBQ.out.2; have h2 := HLN.out; omega
      go_enter Try.func5, Try.ntmps5
      go_wp2_with (first
        | (go_at_call 10; refine HNW.out.mono ?_; rintro e w1 ⟨rfl, hn, hb⟩; have HB1 := Lib.hid hb; have HN1 := Lib.hid hn; clear hn hb)
        | (go_at_call 16; refine (HFW.out _ (HPS.out.below HB1.out)).mono ?_; rintro e w2 ⟨rfl, hb⟩; have HB2 := Lib.hid (HB1.out.trans (hb.mono HB1.out.size)); have HN2 := Lib.hid (HN1.out.below hb); clear hb))
      have HT3 : Hid (Two (w2.alloc (.cells #[.int .i64 k, .bool false, .slice none 0 0, .slice none 0 0] 50 (0, 0))) w.heap.size w.heap.size w2.heap.size k false (.slice none 0 0) (.slice none 0 0) (.slice none 0 0) []) := Lib.hid ⟨HN2.out.below ((Below.refl _ _).alloc (Nat.le_refl _) _), ⟨HB2.out.size, new_rowW w2 (.cells #[.int .i64 k, .bool false, .slice none 0 0, .slice none 0 0] 50 (0, 0)) _ rfl, LS.nil _, LS.nil _, (fun i hi => by cases hi), (fun i hi => by cases hi)⟩, (by have := block_lt HN2.out.2.1; omega), (fun e => by cases e), (fun i hi => by cases hi), (fun i hi => by cases hi)⟩
      have HB3 := Lib.hid (HB2.out.alloc HB2.out.size (.cells #[.int .i64 k, .bool false, .slice none 0 0, .slice none 0 0] 50 (0, 0)))
      generalize w2.alloc (.cells #[.int .i64 k, .bool false, .slice none 0 0, .slice none 0 0] 50 (0, 0)) = w3 at *
      go_loopw [8] (fun i wr => ∃ (j : Nat) (s : Nt.St) (v lv av : Value), j ≤ n ∧ i = .int .i64 j ∧ Below w.heap.size w wr ∧ Two wr w.heap.size w.heap.size w2.heap.size k s.1 v lv av s.2 ∧ Nt.Fine k j s) (fun i _ => n - (intOf i).toNat)
      case atStart => exact ⟨0, (false, []), _, _, _, Nat.zero_le _, rfl, HB3.out, HT3.out, Nt.Fine.nil k false⟩
      case round =>
        obtain ⟨j, ⟨sc, sl⟩, v, lv, av, hj, rfl, hbw, htwo, hfine⟩ := hrel
        have HBW := Lib.hid hbw; have HTW := Lib.hid htwo; have HFI := Lib.hid hfine
        by_cases hlt : j < n
        · obtain ⟨x, hx⟩ : ∃ x, l[j]? = some x := ⟨_, List.getElem?_eq_getElem (by have := HLN.out; omega)⟩
          have hxm := List.mem_of_getElem? hx
          have HXO := Lib.hid ((HOK.out x hxm).turn (Turn.of_below hbw (S := fun _ => False)) (fun i h => h.elim))
          have HX20 : Hid (x.a.ls.length ≤ 20) := Lib.hid (by have h1 := (HBQ.out.1 x hxm).1; have h2 := HXO.out.l.length.1; omega)
          obtain ⟨bb, o, rfl, hbl, hr⟩ := (HPS.out.below hbw).at hx
          have c0 : wr.cell? ⟨bb, o + j * 4, none⟩ = some (.int .i64 x.a.kind) := hr 0 _ rfl
          have c1 : wr.cell? ⟨bb, o + j * 4 + 1, none⟩ = some (.slice x.p1 x.n1 x.c1) := hr 1 _ rfl
          have c2 : wr.cell? ⟨bb, o + j * 4 + 2, none⟩ = some (.slice x.p2 x.n2 x.c2) := hr 2 _ rfl
          have c3 : wr.cell? ⟨bb, o + j * 4 + 3, none⟩ = some (.bool x.a.is) := hr 3 _ rfl
          clear hx hxm hr hbw htwo hfine
          go_wp2_with (first
            | (go_at_call 17; refine (do_any wr w.heap.size w.heap.size w2.heap.size k sc v lv av sl HTW.out hk1 hk2 x.a HXO.out.f x.p1 x.n1 x.c1 x.p2 x.n2 x.c2 HXO.out.l HXO.out.p HXO.out.bl HXO.out.bp HBW.out.size (by have h : sl.length ≤ 20 * j := HFI.out.len; omega) HFI.out.age HX20.out).mono ?_; rintro e w4 ⟨rfl, ⟨v4, lv4, av4, ht4, -⟩, htu⟩; have HT4 := Lib.hid ht4; have HF4 := Lib.hid (HFI.out.step hk1 HX20.out); have HB4 := Lib.hid (Turn.below HBW.out HBW.out.size htu (fun i hi => HTW.out.fo hi)); clear ht4 htu)
            | (go_at_call 18; refine (same23_any w4 w.heap.size w.heap.size w2.heap.size k _ v4 lv4 av4 _ HT4.out hk1 (by have := HF4.out.len; omega)).mono ?_; rintro e w5 ⟨rfl, hb⟩; have HT5 := Lib.hid (HT4.out.below hb); have HB5 := Lib.hid (HB4.out.trans (hb.mono HB4.out.size)); clear hb))
          go_roundw
          case rel => exact ⟨j + 1, _, v4, lv4, av4, by omega, by go_num, HB5.out, HT5.out, HF4.out⟩
          case measure => simp [intOf]; omega
        · obtain rfl : j = n := by omega
          go_wp2_with (go_at_call 9; refine (known23_any _).mono ?_; rintro e w9 ⟨rfl, hb9⟩; have HB9 := Lib.hid (HBW.out.trans (hb9.mono HBW.out.size)); clear hb9)
          go_ret
          exact ⟨rfl, HB9.out⟩

set_option maxRecDepth 100000 in
theorem lifted (os : Os) (started : os.Started) (H : Type) (enc : TypeId × Value → H) :
    ReturnsInHanded {} Try.checked os 5 .any (Rows.netPlaysSpec.pre6 enc Try.prog Try.f5 Rows.netPlaysRow.domain false) (Rows.netPlaysSpec.post enc Try.prog Try.f5 false true false false) := by
  refine returnsInHanded_of_change (C := Try.checked) own started (by kernel_rfl) Try.func5
    (ChangeSpec.witness6 (enc := enc) (C := Try.checked) false ⟨#[], #[.int .i64 0, .slice none 0 0], []⟩ 8 (by kernel_rfl) (by kernel_rfl) (by kernel_rfl) (by kernel_rfl)) ?_
  intro W base args ds gs before hval0 hW hcnd _
  have hval : ∀ (j : Nat) t v, Try.f5.params[j]? = some t → args[j]? = some v → Value.okWide Try.prog W .any base t v := hval0
  have hW' := hW
  obtain ⟨p, q, hA0, hV, rfl, hfz, hnd⟩ := hW
  have hA : DataW.TrodAll enc Try.prog W 0 (fun _ => true) true Try.f5.params.toList args.toList ds p := hA0
  rw [Try.params5] at hA hval
  obtain ⟨v0, vs0, d0, ds0, p0, q0, hargs, rfl, rfl, h0, r0⟩ := trodAll_cons hA
  obtain ⟨v1, vs1, d1, ds1, p1, q1, rfl, rfl, rfl, h1, r1⟩ := trodAll_cons r0
  obtain ⟨rfl, rfl, rfl⟩ := trodAll_nil r1
  obtain rfl : args = #[v0, v1] := by cases args; simp_all
  obtain ⟨k, rfl, rfl, rfl, wk⟩ := open_int Try.underlying3 (hval 0 3 v0 rfl rfl) h0
  obtain ⟨p, n, cap, l, rfl, hsl, hokl⟩ := open_actsA (hval 1 _ v1 rfl rfl) h1
  clear hA0 hval0
  refine (walk k p n cap l W hsl hokl).mono fun e W' ⟨he, hg⟩ => ?_
  subst he
  exact ⟨_, rfl, post_law laidOut rfl hW' ⟨rfl, rfl, rfl⟩ (by kernel_rfl) hg Try.underlying4 rfl⟩

theorem proved : Rows.NetPlaysSaid :=
  OpenClaim.holds_of_wide 5 Try.f5 rfl rfl rfl rfl rfl rfl rfl ⟨rfl, rfl, rfl, rfl, rfl⟩ rfl rfl rfl rfl rfl (by kernel_rfl) Try.func5 (by kernel_rfl)
    (of_decide_eq_true (by kernel_rfl)) (by unfold Func.isWrapper; first | (rw [if_pos (by decide +kernel)]; kernel_rfl) | (rw [if_neg (by decide +kernel)]; exact ⟨rfl, rfl⟩))
    (fun os started H enc _ => lifted os started H enc)
#print axioms proved
end Go.Proofs.Ytihilifpadpkbaa.netPlays
