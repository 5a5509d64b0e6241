/- NetApart returns true for every k and every three slices of acts, and leaves the memory that was there as it was. -/
import Derived.Test.YtihilifpadpkbaaNtX
import Derived.Test.YtihilifpadpkbaaNtK
import Derived.Test.YtihilifpadpkbaaLift
set_option linter.unusedVariables false
set_option linter.unusedSimpArgs false
namespace Go.Proofs.Ytihilifpadpkbaa.netApart
open Go.ChangeShapes Go.WideShapes Go.ChangeAt Go.RowKit

set_option maxRecDepth 10000 in
theorem open_actsA {H : Type} {enc : TypeId × Value → H} {W : World} {held : Bool} {r : Reach} {b0 : Nat} {v : Value} {d : DataW H} {ps : List MemPlace} (hv : Value.okWide Try.prog W r b0 46 v) (h : DataW.Trod enc Try.prog W 0 (fun _ => true) held 46 v d ps) :
    ∃ p n cap l, v = .slice p n cap ∧ LS Am.cells 4 W (.slice p n cap) l ∧ ∀ y ∈ l, y.ok W.heap.size W := by
  obtain ⟨p0, n0, c0, rfl⟩ := okWide_slice Try.underlying46 hv
  obtain ⟨fuel, hf⟩ := h
  obtain ⟨l, h1, h2⟩ := open_acts (by simpa [Value.cells] using hf)
  exact ⟨p0, n0, c0, l, rfl, h1, h2⟩
attribute [local go_sem ↓] Lt_execLoad Lt_execStore
attribute [local go_sem] Lt_load Lt_store loL_drew okL_drew

set_option maxRecDepth 4000 in
set_option maxHeartbeats 8000000 in
theorem walk (k : Int) (p1 : Option Addr) (n1 c1 : Nat) (l1 : List Am) (p2 : Option Addr) (n2 c2 : Nat) (l2 : List Am) (p3 : Option Addr) (n3 c3 : Nat) (l3 : List Am) (w : World) (hs1 : LS Am.cells 4 w (.slice p1 n1 c1) l1) (hok1 : ∀ y ∈ l1, y.ok w.heap.size w) (hs2 : LS Am.cells 4 w (.slice p2 n2 c2) l2) (hok2 : ∀ y ∈ l2, y.ok w.heap.size w) (hs3 : LS Am.cells 4 w (.slice p3 n3 c3) l3) (hok3 : ∀ y ∈ l3, y.ok w.heap.size w) :
    Calls Try.prog 6 #[.int .i64 k, .slice p1 n1 c1, .slice p2 n2 c2, .slice p3 n3 c3] w fun e w' => e = .returned (.bool true) ∧ Below w.heap.size w w' := by
  have HBF := Lib.hid (Below.refl w.heap.size w)
  have HPS1 := Lib.hid hs1
  have HLN1 := Lib.hid hs1.length.1
  have hn11 := hs1.length.2.1
  have hn12 := hs1.length.2.2
  unfold maxLen at hn12
  have HOK1 := Lib.hid hok1
  have HMX1 : Hid (∀ y ∈ l1, y.n1 ≤ 9223372036854775807 ∧ y.n2 ≤ 9223372036854775807) := Lib.hid (fun y hy => by
    have h1 := (hok1 y hy).l.length; have h2 := (hok1 y hy).p.length
    unfold maxLen at h1 h2
    omega)
  obtain ⟨bv1, hbv1⟩ : ∃ bv : Bool, bv = true ↔ (∀ x ∈ l1, x.n1 ≤ 20 ∧ x.n2 ≤ 100) ∧ (l1.length : Int) ≤ 20 := ⟨by classical exact decide ((∀ x ∈ l1, x.n1 ≤ 20 ∧ x.n2 ≤ 100) ∧ (l1.length : Int) ≤ 20), by simp⟩
  have HBV1 := Lib.hid hbv1
  have HFW1 := Lib.hid (fun W h => few_any l1 20 bv1 hbv1 p1 n1 c1 W h HMX1.out)
  clear hs1 hok1 hbv1
  have HPS2 := Lib.hid hs2
  have HLN2 := Lib.hid hs2.length.1
  have hn21 := hs2.length.2.1
  have hn22 := hs2.length.2.2
  unfold maxLen at hn22
  have HOK2 := Lib.hid hok2
  have HMX2 : Hid (∀ y ∈ l2, y.n1 ≤ 9223372036854775807 ∧ y.n2 ≤ 9223372036854775807) := Lib.hid (fun y hy => by
    have h1 := (hok2 y hy).l.length; have h2 := (hok2 y hy).p.length
    unfold maxLen at h1 h2
    omega)
  obtain ⟨bv2, hbv2⟩ : ∃ bv : Bool, bv = true ↔ (∀ x ∈ l2, x.n1 ≤ 20 ∧ x.n2 ≤ 100) ∧ (l2.length : Int) ≤ 20 := ⟨by classical exact decide ((∀ x ∈ l2, x.n1 ≤ 20 ∧ x.n2 ≤ 100) ∧ (l2.length : Int) ≤ 20), by simp⟩
  have HBV2 := Lib.hid hbv2
  have HFW2 := Lib.hid (fun W h => few_any l2 20 bv2 hbv2 p2 n2 c2 W h HMX2.out)
  clear hs2 hok2 hbv2
  have HPS3 := Lib.hid hs3
  have HLN3 := Lib.hid hs3.length.1
  have hn31 := hs3.length.2.1
  have hn32 := hs3.length.2.2
  unfold maxLen at hn32
  have HOK3 := Lib.hid hok3
  have HMX3 : Hid (∀ y ∈ l3, y.n1 ≤ 9223372036854775807 ∧ y.n2 ≤ 9223372036854775807) := Lib.hid (fun y hy => by
    have h1 := (hok3 y hy).l.length; have h2 := (hok3 y hy).p.length
    unfold maxLen at h1 h2
    omega)
  obtain ⟨bv3, hbv3⟩ : ∃ bv : Bool, bv = true ↔ (∀ x ∈ l3, x.n1 ≤ 20 ∧ x.n2 ≤ 100) ∧ (l3.length : Int) ≤ 20 := ⟨by classical exact decide ((∀ x ∈ l3, x.n1 ≤ 20 ∧ x.n2 ≤ 100) ∧ (l3.length : Int) ≤ 20), by simp⟩
  have HBV3 := Lib.hid hbv3
  have HFW3 := Lib.hid (fun W h => few_any l3 20 bv3 hbv3 p3 n3 c3 W h HMX3.out)
  clear hs3 hok3 hbv3
  by_cases hk1 : k < 1
  · go_enter Try.func6, Try.ntmps6
    go_wp2_with (first | (go_at_call 16; with_reducible refine (HFW1.out _ (HPS1.out.below HBF.out)).mono ?_; rintro e wf1 ⟨rfl, hb⟩; have HBF := Lib.hid (HBF.out.trans (hb.mono HBF.out.size)); clear hb) | (go_at_call 16; with_reducible refine (HFW2.out _ (HPS2.out.below HBF.out)).mono ?_; rintro e wf2 ⟨rfl, hb⟩; have HBF := Lib.hid (HBF.out.trans (hb.mono HBF.out.size)); clear hb) | (go_at_call 16; with_reducible refine (HFW3.out _ (HPS3.out.below HBF.out)).mono ?_; rintro e wf3 ⟨rfl, hb⟩; have HBF := Lib.hid (HBF.out.trans (hb.mono HBF.out.size)); clear hb) | (go_at_call 9; refine (known23_any _).mono ?_; rintro e w9 ⟨rfl, hb9⟩; have HB9 := Lib.hid (HBF.out.trans (hb9.mono HBF.out.size)); clear hb9))
    go_ret
    exact ⟨rfl, HB9.out⟩
  by_cases hk2 : 64 < k
  · go_enter Try.func6, Try.ntmps6
    go_wp2_with (first | (go_at_call 16; with_reducible refine (HFW1.out _ (HPS1.out.below HBF.out)).mono ?_; rintro e wf1 ⟨rfl, hb⟩; have HBF := Lib.hid (HBF.out.trans (hb.mono HBF.out.size)); clear hb) | (go_at_call 16; with_reducible refine (HFW2.out _ (HPS2.out.below HBF.out)).mono ?_; rintro e wf2 ⟨rfl, hb⟩; have HBF := Lib.hid (HBF.out.trans (hb.mono HBF.out.size)); clear hb) | (go_at_call 16; with_reducible refine (HFW3.out _ (HPS3.out.below HBF.out)).mono ?_; rintro e wf3 ⟨rfl, hb⟩; have HBF := Lib.hid (HBF.out.trans (hb.mono HBF.out.size)); clear hb) | (go_at_call 9; refine (known23_any _).mono ?_; rintro e w9 ⟨rfl, hb9⟩; have HB9 := Lib.hid (HBF.out.trans (hb9.mono HBF.out.size)); clear hb9))
    go_ret
    exact ⟨rfl, HB9.out⟩
  cases bv1
  · go_enter Try.func6, Try.ntmps6
    go_wp2_with (first | (go_at_call 16; with_reducible refine (HFW1.out _ (HPS1.out.below HBF.out)).mono ?_; rintro e wf1 ⟨rfl, hb⟩; have HBF := Lib.hid (HBF.out.trans (hb.mono HBF.out.size)); clear hb) | (go_at_call 16; with_reducible refine (HFW2.out _ (HPS2.out.below HBF.out)).mono ?_; rintro e wf2 ⟨rfl, hb⟩; have HBF := Lib.hid (HBF.out.trans (hb.mono HBF.out.size)); clear hb) | (go_at_call 16; with_reducible refine (HFW3.out _ (HPS3.out.below HBF.out)).mono ?_; rintro e wf3 ⟨rfl, hb⟩; have HBF := Lib.hid (HBF.out.trans (hb.mono HBF.out.size)); clear hb) | (go_at_call 9; refine (known23_any _).mono ?_; rintro e w9 ⟨rfl, hb9⟩; have HB9 := Lib.hid (HBF.out.trans (hb9.mono HBF.out.size)); clear hb9))
    go_ret
    exact ⟨rfl, HB9.out⟩
  cases bv2
  · go_enter Try.func6, Try.ntmps6
    go_wp2_with (first | (go_at_call 16; with_reducible refine (HFW1.out _ (HPS1.out.below HBF.out)).mono ?_; rintro e wf1 ⟨rfl, hb⟩; have HBF := Lib.hid (HBF.out.trans (hb.mono HBF.out.size)); clear hb) | (go_at_call 16; with_reducible refine (HFW2.out _ (HPS2.out.below HBF.out)).mono ?_; rintro e wf2 ⟨rfl, hb⟩; have HBF := Lib.hid (HBF.out.trans (hb.mono HBF.out.size)); clear hb) | (go_at_call 16; with_reducible refine (HFW3.out _ (HPS3.out.below HBF.out)).mono ?_; rintro e wf3 ⟨rfl, hb⟩; have HBF := Lib.hid (HBF.out.trans (hb.mono HBF.out.size)); clear hb) | (go_at_call 9; refine (known23_any _).mono ?_; rintro e w9 ⟨rfl, hb9⟩; have HB9 := Lib.hid (HBF.out.trans (hb9.mono HBF.out.size)); clear hb9))
    go_ret
    exact ⟨rfl, HB9.out⟩
  cases bv3
  · go_enter Try.func6, Try.ntmps6
    go_wp2_with (first | (go_at_call 16; with_reducible refine (HFW1.out _ (HPS1.out.below HBF.out)).mono ?_; rintro e wf1 ⟨rfl, hb⟩; have HBF := Lib.hid (HBF.out.trans (hb.mono HBF.out.size)); clear hb) | (go_at_call 16; with_reducible refine (HFW2.out _ (HPS2.out.below HBF.out)).mono ?_; rintro e wf2 ⟨rfl, hb⟩; have HBF := Lib.hid (HBF.out.trans (hb.mono HBF.out.size)); clear hb) | (go_at_call 16; with_reducible refine (HFW3.out _ (HPS3.out.below HBF.out)).mono ?_; rintro e wf3 ⟨rfl, hb⟩; have HBF := Lib.hid (HBF.out.trans (hb.mono HBF.out.size)); clear hb) | (go_at_call 9; refine (known23_any _).mono ?_; rintro e w9 ⟨rfl, hb9⟩; have HB9 := Lib.hid (HBF.out.trans (hb9.mono HBF.out.size)); clear hb9))
    go_ret
    exact ⟨rfl, HB9.out⟩
  have HBQ1 := Lib.hid (HBV1.out.1 rfl)
  have HBQ2 := Lib.hid (HBV2.out.1 rfl)
  have HBQ3 := Lib.hid (HBV3.out.1 rfl)
  have hl1 : n1 ≤ 20 := by have h1 := HBQ1.out.2; have h2 := HLN1.out; omega
  have hl2 : n2 ≤ 20 := by have h1 := HBQ2.out.2; have h2 := HLN2.out; omega
  have hl3 : n3 ≤ 20 := by have h1 := HBQ3.out.2; have h2 := HLN3.out; omega
  have hk1 : 1 ≤ k := by omega
  have hk2 : k ≤ 64 := by omega
  have hk0 : 0 < k := by omega
  have HNW := Lib.hid (fun W => nnew_any k hk1 hk2 W)
  clear HBV1 HBV2 HBV3
  go_enter Try.func6, Try.ntmps6
  go_wp2_with (first
    | (go_at_call 16; with_reducible refine (HFW1.out _ (HPS1.out.below HBF.out)).mono ?_; rintro e wf1 ⟨rfl, hb⟩; have HBF := Lib.hid (HBF.out.trans (hb.mono HBF.out.size)); clear hb) | (go_at_call 16; with_reducible refine (HFW2.out _ (HPS2.out.below HBF.out)).mono ?_; rintro e wf2 ⟨rfl, hb⟩; have HBF := Lib.hid (HBF.out.trans (hb.mono HBF.out.size)); clear hb) | (go_at_call 16; with_reducible refine (HFW3.out _ (HPS3.out.below HBF.out)).mono ?_; rintro e wf3 ⟨rfl, hb⟩; have HBF := Lib.hid (HBF.out.trans (hb.mono HBF.out.size)); clear hb)
    | (go_at_call 10; refine (HNW.out _).mono ?_; rintro e w2 ⟨rfl, hn, hb⟩; have HN2 := Lib.hid hn; have HB2 := Lib.hid (HBF.out.trans (hb.mono HBF.out.size)); have HFS := Lib.hid HBF.out.size; clear hn hb))
  generalize wf3.heap.size = g at *
  have HT3 : Hid (Two (w2.alloc (.cells #[.int .i64 k, .bool false, .slice none 0 0, .slice none 0 0] 50 (0, 0))) w.heap.size g w2.heap.size k false (.slice none 0 0) (.slice none 0 0) (.slice none 0 0) []) := Lib.hid ⟨(HN2.out.below ((Below.refl _ _).alloc (Nat.le_refl _) _)).mono HFS.out, ⟨HB2.out.size, new_rowW w2 (.cells #[.int .i64 k, .bool false, .slice none 0 0, .slice none 0 0] 50 (0, 0)) _ rfl, LS.nil _, LS.nil _, (fun i hi => by cases hi), (fun i hi => by cases hi)⟩, (by have := block_lt HN2.out.2.1; omega), (fun e => by cases e), (fun i hi => by cases hi), (fun i hi => by cases hi)⟩
  have HB3 := Lib.hid (HB2.out.alloc HB2.out.size (.cells #[.int .i64 k, .bool false, .slice none 0 0, .slice none 0 0] 50 (0, 0)))
  generalize w2.alloc (.cells #[.int .i64 k, .bool false, .slice none 0 0, .slice none 0 0] 50 (0, 0)) = w3 at *
  generalize w2.heap.size = r at *
  go_loopw [12] (fun i wr => ∃ (j : Nat) (s : Nt.St) (v lv av : Value), j ≤ n1 ∧ i = .int .i64 j ∧ Below w.heap.size w wr ∧ Two wr w.heap.size g r k s.1 v lv av s.2 ∧ Nt.Fine k j s) (fun i _ => n1 - (intOf i).toNat)
  case atStart => exact ⟨0, (false, []), _, _, _, Nat.zero_le _, rfl, HB3.out, HT3.out, Nt.Fine.nil k false⟩
  case round =>
    obtain ⟨j, ⟨sc, sl⟩, v, lv, av, hj, rfl, hbw, htwo, hfine⟩ := hrel
    have HBW := Lib.hid hbw; have HTW := Lib.hid htwo; have HFI := Lib.hid hfine
    clear hbw htwo hfine
    by_cases hlt : j < n1
    · obtain ⟨x, hx⟩ : ∃ x, l1[j]? = some x := ⟨_, List.getElem?_eq_getElem (by have := HLN1.out; omega)⟩
      have hxm := List.mem_of_getElem? hx
      have HXO := Lib.hid ((HOK1.out x hxm).turn (Turn.of_below HBW.out (S := fun _ => False)) (fun i h => h.elim))
      have HX20 : Hid (x.a.ls.length ≤ 20) := Lib.hid (by have h1 := (HBQ1.out.1 x hxm).1; have h2 := HXO.out.l.length.1; omega)
      obtain ⟨bb, o, rfl, hbl, hr⟩ := (HPS1.out.below HBW.out).at hx
      have c0 : wr.cell? ⟨bb, o + j * 4, none⟩ = some (.int .i64 x.a.kind) := hr 0 _ rfl
      have c1 : wr.cell? ⟨bb, o + j * 4 + 1, none⟩ = some (.slice x.p1 x.n1 x.c1) := hr 1 _ rfl
      have c2 : wr.cell? ⟨bb, o + j * 4 + 2, none⟩ = some (.slice x.p2 x.n2 x.c2) := hr 2 _ rfl
      have c3 : wr.cell? ⟨bb, o + j * 4 + 3, none⟩ = some (.bool x.a.is) := hr 3 _ rfl
      clear hx hxm hr
      go_wp2_with (go_at_call 17; refine (do_any wr w.heap.size g r k sc v lv av sl HTW.out hk1 hk2 x.a HXO.out.f x.p1 x.n1 x.c1 x.p2 x.n2 x.c2 HXO.out.l HXO.out.p HXO.out.bl HXO.out.bp HBW.out.size (by have h : sl.length ≤ 20 * _ := HFI.out.len; omega) HFI.out.age HX20.out).mono ?_; rintro e w4 ⟨rfl, hdn⟩; have HDN := Lib.hid hdn; have HF4 := Lib.hid (HFI.out.step hk1 HX20.out); have HB4 := Lib.hid (Turn.below HBW.out HBW.out.size hdn.t (fun i hi => HTW.out.fo hi)); clear hdn)
      go_roundw
      case rel => obtain ⟨⟨v4, lv4, av4, ht4, -⟩, -⟩ := HDN.out; exact ⟨j + 1, _, v4, lv4, av4, by omega, by go_num, HB4.out, ht4, HF4.out⟩
      case measure => simp [intOf]; omega
    · obtain rfl : j = n1 := by omega
      have HSL : Hid (sl.length ≤ 400) := Lib.hid (by have h : sl.length ≤ 20 * j := HFI.out.len; omega)
      have HBB := Lib.hid HBW.out.size
      go_wp2_with (first
        | (go_at_call 19; refine (ncopy_any wr w.heap.size g k sc v sl HTW.out.nn hk0 (by have := HSL.out; omega) HBB.out).mono ?_; rintro e w5 ⟨go, vo, rfl, hn, hb⟩; have HN5 := Lib.hid hn; have HB5 := Lib.hid hb; clear hn hb)
        | (go_at_call 20; refine (rcopy_any w5 w.heap.size r k sc lv av sl (HTW.out.rr.below HB5.out) (by have h1 := HBB.out; have h2 := HB5.out.size; omega)).mono ?_; rintro e w6 ⟨ro, rfl, hro, hr, hb⟩; have HF6 : Hid (Four w6 w.heap.size g r k (sc, sl) v lv av go ro (sc, sl) vo lv av) := Lib.hid (Four.copy (s := (sc, sl)) HTW.out HN5.out HB5.out hr hro hb HBB.out); have HB6 := Lib.hid ((HBW.out.trans (HB5.out.mono HBB.out)).trans (hb.mono (Nat.le_trans HBB.out HB5.out.size))); clear hro hr hb)
        | (go_at_call 21; with_reducible refine (nsame_any w6 _ _ g go k sc sc v vo sl sl HF6.out.one.nn HF6.out.two.nn hk0 true (by simp)).mono ?_; rintro e w7 ⟨rfl, hb⟩; have HF7 := Lib.hid (HF6.out.below hb); have HB7 := Lib.hid (HB6.out.trans (hb.mono HB6.out.size)); clear hb)
        | (go_at_call 21; with_reducible refine (nsame_any w7 _ _ go g k sc sc vo v sl sl HF7.out.two.nn HF7.out.one.nn hk0 true (by simp)).mono ?_; rintro e w8 ⟨rfl, hb⟩; have HF8 := Lib.hid (HF7.out.below hb); have HB8 := Lib.hid (HB7.out.trans (hb.mono HB7.out.size)); clear hb))
      clear HN5 HB5 HF6 HF7 HB6 HB7 HTW HBW
      go_loopw [15] (fun i wr => ∃ (j : Nat) (s s' : Nt.St) (v lv av v' lv' av' : Value), j ≤ n2 ∧ i = .int .i64 j ∧ Below w.heap.size w wr ∧ Four wr w.heap.size g r k s v lv av go ro s' v' lv' av' ∧ Nt.Fine k (20 + j) s ∧ Nt.Fine k 20 s') (fun i _ => n2 - (intOf i).toNat)
      case atStart => exact ⟨0, (sc, sl), (sc, sl), _, _, _, _, _, _, Nat.zero_le _, rfl, HB8.out, HF8.out, HFI.out.more (by omega), HFI.out.more (by omega)⟩
      case round =>
        obtain ⟨j, ⟨sc, sl⟩, ⟨sc', sl'⟩, v, lv, av, v', lv', av', hj, rfl, hbw, hfour, hfine, hfine'⟩ := hrel
        have HBW := Lib.hid hbw; have HFO := Lib.hid hfour; have HFI := Lib.hid hfine; have HFI' := Lib.hid hfine'
        clear hbw hfour hfine hfine'
        by_cases hlt : j < n2
        · obtain ⟨x, hx⟩ : ∃ x, l2[j]? = some x := ⟨_, List.getElem?_eq_getElem (by have := HLN2.out; omega)⟩
          have hxm := List.mem_of_getElem? hx
          have HXO := Lib.hid ((HOK2.out x hxm).turn (Turn.of_below HBW.out (S := fun _ => False)) (fun i h => h.elim))
          have HX20 : Hid (x.a.ls.length ≤ 20) := Lib.hid (by have h1 := (HBQ2.out.1 x hxm).1; have h2 := HXO.out.l.length.1; omega)
          obtain ⟨bb, o, rfl, hbl, hr⟩ := (HPS2.out.below HBW.out).at hx
          have c0 : wr.cell? ⟨bb, o + j * 4, none⟩ = some (.int .i64 x.a.kind) := hr 0 _ rfl
          have c1 : wr.cell? ⟨bb, o + j * 4 + 1, none⟩ = some (.slice x.p1 x.n1 x.c1) := hr 1 _ rfl
          have c2 : wr.cell? ⟨bb, o + j * 4 + 2, none⟩ = some (.slice x.p2 x.n2 x.c2) := hr 2 _ rfl
          have c3 : wr.cell? ⟨bb, o + j * 4 + 3, none⟩ = some (.bool x.a.is) := hr 3 _ rfl
          clear hx hxm hr
          go_wp2_with (go_at_call 17; refine (do_any wr w.heap.size g r k sc v lv av sl HFO.out.one hk1 hk2 x.a HXO.out.f x.p1 x.n1 x.c1 x.p2 x.n2 x.c2 HXO.out.l HXO.out.p HXO.out.bl HXO.out.bp HBW.out.size (by have h : sl.length ≤ 20 * _ := HFI.out.len; omega) HFI.out.age HX20.out).mono ?_; rintro e w4 ⟨rfl, hdn⟩; have HDN := Lib.hid hdn; have HF4 := Lib.hid (HFI.out.step hk1 HX20.out); have HB4 := Lib.hid (Turn.below HBW.out HBW.out.size hdn.t (fun i hi => HFO.out.one.fo hi)); clear hdn)
          go_roundw
          case rel => obtain ⟨v4, lv4, av4, hf4⟩ := HFO.out.step HDN.out; exact ⟨j + 1, _, (sc', sl'), v4, lv4, av4, _, _, _, by omega, by go_num, HB4.out, hf4, HF4.out, HFI'.out⟩
          case measure => simp [intOf]; omega
        · obtain rfl : j = n2 := by omega
          go_wp2_with fail
          go_loopw [16] (fun i wr => ∃ (j : Nat) (s s' : Nt.St) (v lv av v' lv' av' : Value), j ≤ n3 ∧ i = .int .i64 j ∧ Below w.heap.size w wr ∧ Four wr w.heap.size g r k s v lv av go ro s' v' lv' av' ∧ Nt.Fine k 40 s ∧ Nt.Fine k (20 + j) s') (fun i _ => n3 - (intOf i).toNat)
          case atStart => exact ⟨0, (sc, sl), (sc', sl'), _, _, _, _, _, _, Nat.zero_le _, rfl, HBW.out, HFO.out, HFI.out.more (by omega), HFI'.out.more (by omega)⟩
          case round =>
            obtain ⟨j, ⟨sc, sl⟩, ⟨sc', sl'⟩, v, lv, av, v', lv', av', hj, rfl, hbw, hfour, hfine, hfine'⟩ := hrel
            have HBW := Lib.hid hbw; have HFO := Lib.hid hfour; have HFI := Lib.hid hfine; have HFI' := Lib.hid hfine'
            clear hbw hfour hfine hfine'
            by_cases hlt : j < n3
            · obtain ⟨x, hx⟩ : ∃ x, l3[j]? = some x := ⟨_, List.getElem?_eq_getElem (by have := HLN3.out; omega)⟩
              have hxm := List.mem_of_getElem? hx
              have HXO := Lib.hid ((HOK3.out x hxm).turn (Turn.of_below HBW.out (S := fun _ => False)) (fun i h => h.elim))
              have HX20 : Hid (x.a.ls.length ≤ 20) := Lib.hid (by have h1 := (HBQ3.out.1 x hxm).1; have h2 := HXO.out.l.length.1; omega)
              obtain ⟨bb, o, rfl, hbl, hr⟩ := (HPS3.out.below HBW.out).at hx
              have c0 : wr.cell? ⟨bb, o + j * 4, none⟩ = some (.int .i64 x.a.kind) := hr 0 _ rfl
              have c1 : wr.cell? ⟨bb, o + j * 4 + 1, none⟩ = some (.slice x.p1 x.n1 x.c1) := hr 1 _ rfl
              have c2 : wr.cell? ⟨bb, o + j * 4 + 2, none⟩ = some (.slice x.p2 x.n2 x.c2) := hr 2 _ rfl
              have c3 : wr.cell? ⟨bb, o + j * 4 + 3, none⟩ = some (.bool x.a.is) := hr 3 _ rfl
              clear hx hxm hr
              go_wp2_with (go_at_call 17; refine (do_any wr w.heap.size go ro k sc' v' lv' av' sl' HFO.out.two hk1 hk2 x.a HXO.out.f x.p1 x.n1 x.c1 x.p2 x.n2 x.c2 HXO.out.l HXO.out.p HXO.out.bl HXO.out.bp HBW.out.size (by have h : sl'.length ≤ 20 * _ := HFI'.out.len; omega) HFI'.out.age HX20.out).mono ?_; rintro e w4 ⟨rfl, hdn⟩; have HDN := Lib.hid hdn; have HF4 := Lib.hid (HFI'.out.step hk1 HX20.out); have HB4 := Lib.hid (Turn.below HBW.out HBW.out.size hdn.t (fun i hi => HFO.out.two.fo hi)); clear hdn)
              go_roundw
              case rel => obtain ⟨v4, lv4, av4, hf4⟩ := HFO.out.swap.step HDN.out; exact ⟨j + 1, (sc, sl), _, _, _, _, v4, lv4, av4, by omega, by go_num, HB4.out, hf4.swap, HFI.out, HF4.out⟩
              case measure => simp [intOf]; omega
            · obtain rfl : j = n3 := by omega
              have HSL : Hid (sl.length ≤ 2000 ∧ sl'.length ≤ 2000) := Lib.hid (by have h : sl.length ≤ 20 * 40 := HFI.out.len; have h' : sl'.length ≤ 20 * (20 + j) := HFI'.out.len; omega)
              have HBB := Lib.hid HBW.out.size
              go_wp2_with (go_at_call 22; refine (nwaiting_any wr w.heap.size g k sc v sl HFO.out.one.nn hk0 (by have := HSL.out; omega)).mono ?_; rintro e wz ⟨xv, rfl, ho, hb⟩; have HO := Lib.hid ho; have HFZ := Lib.hid (HFO.out.below hb); have HBZ := Lib.hid (HBW.out.trans (hb.mono HBB.out)); have HBR := Lib.hid hb; clear ho hb)
              obtain ⟨m, hm⟩ : ∃ m, sl.length = m := ⟨_, rfl⟩
              have HO2 := HO.out
              rw [hm] at HO2
              have hm2 : m ≤ 2000 := by have := HSL.out.1; omega
              obtain ⟨xq, xc, rfl⟩ := rec_form HO2
              have HXB := Lib.hid (own_room HO2)
              have HXO := Lib.hid (fun (b : Nat) (hb : (Value.slice xq m xc).ownBlock = some b) => (recs_base HO2 hb).1)
              clear HO HO2 hm
              go_loopw [18] (fun i wq => ∃ j : Nat, j ≤ m ∧ i = .int .i64 j ∧ Turn (fun b => (Value.slice xq m xc).ownBlock = some b) wz wq ∧ (m = 0 ∨ ∃ xb cs, xq = some ⟨xb, 0, none⟩ ∧ wr.heap.size ≤ xb ∧ wq.heap[xb]? = some (.cells cs 35 (0, 0)) ∧ m * 15 ≤ cs.size)) (fun i _ => m - (intOf i).toNat)
              case atStart => exact ⟨0, Nat.zero_le _, rfl, Turn.refl _ _, HXB.out⟩
              case round =>
                obtain ⟨j2, hj2, rfl, htu, hxr⟩ := hrel
                have HTU := Lib.hid htu
                clear htu
                by_cases hlt2 : j2 < m
                · rcases hxr with h0 | ⟨xb, cs, rfl, hxb, hrow, hsz⟩
                  · omega
                  have hth : (wr).there xb (j2 * 15) 15 := fun i hi => ⟨by rw [cell_of_row _ _ _ _ _ _ hrow, Array.getElem?_eq_getElem (by omega)]; rfl, frozen_of_row _ _ _ _ _ hrow⟩
                  have h1c : ([.int .i64 0, .int .i64 0, .int .u64 0, .int .u64 0, .int .i64 0, .int .u64 0, .int .i64 0, .int .i64 0, .int .i64 0, .int .i64 0, .int .i64 0, .int .i64 0, .int .i64 0, .int .i64 0, .int .u64 0] : List Value).all (·.oneCell') = true := rfl
                  have h1n : ([.int .i64 0, .int .i64 0, .int .u64 0, .int .u64 0, .int .i64 0, .int .u64 0, .int .i64 0, .int .i64 0, .int .i64 0, .int .i64 0, .int .i64 0, .int .i64 0, .int .i64 0, .int .i64 0, .int .u64 0] : List Value).length = 15 := rfl
                  have HRW := Lib.hid (heap_setCells_same [.int .i64 0, .int .i64 0, .int .u64 0, .int .u64 0, .int .i64 0, .int .u64 0, .int .i64 0, .int .i64 0, .int .i64 0, .int .i64 0, .int .i64 0, .int .i64 0, .int .i64 0, .int .i64 0, .int .u64 0] _ xb (j2 * 15) _ _ hrow)
                  have HSC := Lib.hid (And.intro hxb hsz)
                  clear hrow hxb hsz
                  go_wp2_with fail
                  go_roundw
                  case rel =>
                    obtain ⟨ds, h1, h2⟩ := HRW.out
                    exact ⟨j2 + 1, by omega, by go_num, Turn.setCells (S := fun b => (Value.slice (some ⟨xb, 0, none⟩) m xc).ownBlock = some b) rfl _ _ _ HTU.out, .inr ⟨xb, ds, rfl, HSC.out.1, h1, by rw [h2]; exact HSC.out.2⟩⟩
                  case measure => simp [intOf]; omega
                · clear hxr
                  have HTR := Lib.hid ((Turn.of_below HBR.out (S := fun b => (Value.slice xq m xc).ownBlock = some b)).trans HTU.out)
                  have HFQ := Lib.hid (HFO.out.turn HTR.out (fun i hi => HXO.out i hi))
                  have HBQ := Lib.hid (Turn.below HBW.out HBB.out HTR.out (fun i hi => by have h1 := HXO.out i hi; have h2 := HBB.out; omega))
                  obtain ⟨bv, hbv⟩ : ∃ bv : Bool, bv = true ↔ sc = sc' ∧ sl = sl' := ⟨by classical exact decide (sc = sc' ∧ sl = sl'), by simp⟩
                  have HBV := Lib.hid hbv
                  have HBV' : Hid (bv = true ↔ sc' = sc ∧ sl' = sl) := Lib.hid (by rw [hbv]; exact ⟨fun h => ⟨h.1.symm, h.2.symm⟩, fun h => ⟨h.1.symm, h.2.symm⟩⟩)
                  clear hbv
                  go_wp2_with (first
                    | (go_at_call 18; with_reducible refine (same23_any wr w.heap.size g r k sc v lv av sl HFQ.out.one hk1 (by have := HSL.out; omega)).mono ?_; rintro e wa ⟨rfl, hb⟩; have HFA := Lib.hid (HFQ.out.below hb); have HBA := Lib.hid (HBQ.out.trans (hb.mono HBQ.out.size)); clear hb)
                    | (go_at_call 18; with_reducible refine (same23_any wa w.heap.size go ro k sc' v' lv' av' sl' HFA.out.two hk1 (by have := HSL.out; omega)).mono ?_; rintro e wb ⟨rfl, hb⟩; have HFB := Lib.hid (HFA.out.below hb); have HBB2 := Lib.hid (HBA.out.trans (hb.mono HBA.out.size)); clear hb)
                    | (go_at_call 21; with_reducible refine (nsame_any wb _ _ g go k sc sc' v v' sl sl' HFB.out.one.nn HFB.out.two.nn hk0 bv HBV.out).mono ?_; rintro e wc ⟨rfl, hb⟩; have HFC := Lib.hid (HFB.out.below hb); have HBC := Lib.hid (HBB2.out.trans (hb.mono HBB2.out.size)); clear hb)
                    | (go_at_call 23; with_reducible refine (alike_any wc _ _ r ro k sc sc' lv av lv' av' sl sl' HFC.out.one.rr HFC.out.two.rr bv HBV.out).mono ?_; rintro e wd ⟨rfl, hb⟩; have HFD := Lib.hid (HFC.out.below hb); have HBD := Lib.hid (HBC.out.trans (hb.mono HBC.out.size)); clear hb)
                    | (go_at_call 21; with_reducible refine (nsame_any wd _ _ go g k sc' sc v' v sl' sl HFD.out.two.nn HFD.out.one.nn hk0 bv HBV'.out).mono ?_; rintro e we ⟨rfl, hb⟩; have HFE := Lib.hid (HFD.out.below hb); have HBE := Lib.hid (HBD.out.trans (hb.mono HBD.out.size)); clear hb)
                    | (go_at_call 23; with_reducible refine (alike_any we _ _ r ro k sc sc' lv av lv' av' sl sl' HFE.out.one.rr HFE.out.two.rr bv HBV.out).mono ?_; rintro e wg ⟨rfl, hb⟩; have HBG := Lib.hid (HBE.out.trans (hb.mono HBE.out.size)); clear hb)
                    | (go_at_call 9; refine (known23_any _).mono ?_; rintro e w9 ⟨rfl, hb9⟩; have HB9 := Lib.hid (HBG.out.trans (hb9.mono HBG.out.size)); clear hb9))
                  go_ret
                  exact ⟨rfl, HB9.out⟩

set_option maxRecDepth 100000 in
theorem lifted (os : Os) (started : os.Started) (H : Type) (enc : TypeId × Value → H) :
    ReturnsInHanded {} Try.checked os 6 .any (Rows.netApartSpec.pre6 enc Try.prog Try.f6 Rows.netApartRow.domain false) (Rows.netApartSpec.post enc Try.prog Try.f6 false true false false) := by
  refine returnsInHanded_of_change (C := Try.checked) own started (by kernel_rfl) Try.func6
    (ChangeSpec.witness6 (enc := enc) (C := Try.checked) false ⟨#[], #[.int .i64 0, .slice none 0 0, .slice none 0 0, .slice none 0 0], []⟩ 8 (by kernel_rfl) (by kernel_rfl) (by kernel_rfl) (by kernel_rfl)) ?_
  intro W base args ds gs before hval0 hW hcnd _
  have hval : ∀ (j : Nat) t v, Try.f6.params[j]? = some t → args[j]? = some v → Value.okWide Try.prog W .any base t v := hval0
  have hW' := hW
  obtain ⟨p, q, hA0, hV, rfl, hfz, hnd⟩ := hW
  have hA : DataW.TrodAll enc Try.prog W 0 (fun _ => true) true Try.f6.params.toList args.toList ds p := hA0
  rw [Try.params6] at hA hval
  obtain ⟨v0, vs0, d0, ds0, p0, q0, hargs, rfl, rfl, h0, r0⟩ := trodAll_cons hA
  obtain ⟨v1, vs1, d1, ds1, p1, q1, rfl, rfl, rfl, h1, r1⟩ := trodAll_cons r0
  obtain ⟨v2, vs2, d2, ds2, p2, q2, rfl, rfl, rfl, h2, r2⟩ := trodAll_cons r1
  obtain ⟨v3, vs3, d3, ds3, p3, q3, rfl, rfl, rfl, h3, r3⟩ := trodAll_cons r2
  obtain ⟨rfl, rfl, rfl⟩ := trodAll_nil r3
  obtain rfl : args = #[v0, v1, v2, v3] := by cases args; simp_all
  obtain ⟨k, rfl, rfl, rfl, wk⟩ := open_int Try.underlying3 (hval 0 3 v0 rfl rfl) h0
  obtain ⟨p1, n1, c1, l1, rfl, hsl1, hokl1⟩ := open_actsA (hval 1 _ v1 rfl rfl) h1
  obtain ⟨p2, n2, c2, l2, rfl, hsl2, hokl2⟩ := open_actsA (hval 2 _ v2 rfl rfl) h2
  obtain ⟨p3, n3, c3, l3, rfl, hsl3, hokl3⟩ := open_actsA (hval 3 _ v3 rfl rfl) h3
  clear hA0 hval0
  refine (walk k p1 n1 c1 l1 p2 n2 c2 l2 p3 n3 c3 l3 W hsl1 hokl1 hsl2 hokl2 hsl3 hokl3).mono fun e W' ⟨he, hg⟩ => ?_
  subst he
  exact ⟨_, rfl, post_law laidOut rfl hW' ⟨rfl, rfl, rfl⟩ (by kernel_rfl) hg Try.underlying4 rfl⟩

theorem proved : Rows.NetApartSaid :=
  OpenClaim.holds_of_wide 6 Try.f6 rfl rfl rfl rfl rfl rfl rfl ⟨rfl, rfl, rfl, rfl, rfl⟩ rfl rfl rfl rfl rfl (by kernel_rfl) Try.func6 (by kernel_rfl)
    (of_decide_eq_true (by kernel_rfl)) (by unfold Func.isWrapper; first | (rw [if_pos (by decide +kernel)]; kernel_rfl) | (rw [if_neg (by decide +kernel)]; exact ⟨rfl, rfl⟩))
    (fun os started H enc _ => lifted os started H enc)
#print axioms proved
end Go.Proofs.Ytihilifpadpkbaa.netApart
