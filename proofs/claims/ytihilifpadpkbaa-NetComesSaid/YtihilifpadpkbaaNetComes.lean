/- NetComes returns true for every k, letters, picks, beginning, and calm or not, and leaves the memory that was there as it was. -/
import Derived.Test.YtihilifpadpkbaaNtY
import Derived.Test.YtihilifpadpkbaaLift
set_option linter.unusedVariables false
set_option linter.unusedSimpArgs false
namespace Go.Proofs.Ytihilifpadpkbaa.netComes
open Go.ChangeShapes Go.WideShapes Go.ChangeAt Go.RowKit

set_option maxRecDepth 10000 in
theorem open_lettersA {H : Type} {enc : TypeId × Value → H} {W : World} {held : Bool} {r : Reach} {b0 : Nat} {v : Value} {d : DataW H} {ps : List MemPlace} (hv : Value.okWide Try.prog W r b0 22 v) (h : DataW.Trod enc Try.prog W 0 (fun _ => true) held 22 v d ps) :
    ∃ p n cap l, v = .slice p n cap ∧ LS Lt.cells 15 W (.slice p n cap) l ∧ ∀ y ∈ l, y.fit := by
  obtain ⟨p0, n0, c0, rfl⟩ := okWide_slice Try.underlying22 hv
  obtain ⟨fuel, hf⟩ := h
  obtain ⟨l, h1, h2⟩ := open_letters (by simpa [Value.cells] using hf)
  exact ⟨p0, n0, c0, l, rfl, h1, h2⟩
set_option maxRecDepth 10000 in
theorem open_intsA {H : Type} {enc : TypeId × Value → H} {W : World} {held : Bool} {r : Reach} {b0 : Nat} {v : Value} {d : DataW H} {ps : List MemPlace} (hv : Value.okWide Try.prog W r b0 23 v) (h : DataW.Trod enc Try.prog W 0 (fun _ => true) held 23 v d ps) :
    ∃ p n cap l, v = .slice p n cap ∧ LS intC 1 W (.slice p n cap) l := by
  obtain ⟨p0, n0, c0, rfl⟩ := okWide_slice Try.underlying23 hv
  obtain ⟨fuel, hf⟩ := h
  obtain ⟨l, h1, h2⟩ := open_int_list (by simpa [Value.cells] using hf)
  exact ⟨p0, n0, c0, l, rfl, h1⟩
theorem cnt_take_le (x : Lt) (l : List Lt) (b : Nat) : Nt.cnt x (l.take b) ≤ Nt.cnt x l := by
  unfold Nt.cnt; exact List.Sublist.countP_le (List.take_sublist b l)
theorem ls_block {α : Type} {enc : α → List Value} {n : Nat} {w : World} {p : Option Addr} {m c : Nat} {l : List α} (h : LS enc n w (.slice p m c) l) (hne : l ≠ []) : ∀ b, (Value.slice p m c).ownBlock = some b → b < w.heap.size := fun b hb => by
  obtain ⟨i, hi⟩ := List.exists_mem_of_ne_nil _ hne
  obtain ⟨j, hj⟩ := List.mem_iff_getElem?.1 hi
  obtain ⟨b', o, e, hbl, -⟩ := h.at hj
  subst e; injection hb with hb; exact hb ▸ hbl
theorem cnt_apart : ∀ {l : List Lt}, (∀ (i j : Nat) (x y : Lt), i < l.length → j < i → l[i]? = some x → l[j]? = some y → x ≠ y) → ∀ x, Nt.cnt x l ≤ 1
  | [], _, x => Nat.zero_le _
  | z :: l, h, x => by
    have ih := cnt_apart (l := l) (fun i j u v hi hj hu hv => h (i + 1) (j + 1) u v (by simpa using hi) (by omega) (by simpa using hu) (by simpa using hv)) x
    unfold Nt.cnt at ih ⊢
    rw [List.countP_cons]
    by_cases hz : Lt.eqB x z = true
    · have hxz := (Lt.eqB_iff x z).1 hz
      subst hxz
      have h0 : l.countP (fun y => Lt.eqB x y) = 0 := by
        rw [List.countP_eq_zero]
        intro y hy hy2
        have := (Lt.eqB_iff x y).1 hy2
        subst this
        obtain ⟨i, hi⟩ := List.mem_iff_getElem?.1 hy
        exact h (i + 1) 0 x x (by have := (List.getElem?_eq_some_iff.1 hi).1; simp; omega) (by omega) (by simpa using hi) rfl rfl
      rw [h0]; simp [hz]
    · simp [hz]; exact ih
attribute [local go_sem ↓] Lt_execLoad
attribute [local go_sem] Lt_load loL_drew okL_drew

set_option maxRecDepth 4000 in
set_option maxHeartbeats 8000000 in
theorem walk (k : Int) (p1 : Option Addr) (n1 c1 : Nat) (l : List Lt) (p2 : Option Addr) (n2 c2 : Nat) (ps : List Int) (fr : Int) (calm : Bool) (w : World) (hs1 : LS Lt.cells 15 w (.slice p1 n1 c1) l) (hfit : ∀ y ∈ l, y.fit) (hs2 : LS intC 1 w (.slice p2 n2 c2) ps) (wfr : (Lit.int .i64 fr).wf = true) :
    Calls Try.prog 3 #[.int .i64 k, .slice p1 n1 c1, .slice p2 n2 c2, .int .i64 fr, .bool calm] w fun e w' => e = .returned (.bool true) ∧ Below w.heap.size w w' := by
  have HBX := Lib.hid (Below.refl w.heap.size w)
  have hfr := i64_wf wfr
  unfold I64 at hfr
  obtain ⟨hfr1, hfr2⟩ := hfr
  have HLS := Lib.hid hs1
  have HPS := Lib.hid hs2
  have HLN := Lib.hid hs1.length.1
  have hn1 := hs1.length.2.1
  have hn2 := hs1.length.2.2
  have HPN := Lib.hid hs2.length.1
  have hm1 := hs2.length.2.1
  have hm2 := hs2.length.2.2
  unfold maxLen at hn2 hm2
  have HFT := Lib.hid hfit
  obtain ⟨q, hq⟩ : ∃ q : Bool, q = true ↔ ∀ x ∈ l, x.may = true := ⟨by classical exact decide (∀ x ∈ l, x.may = true), by simp⟩
  have HQ := Lib.hid hq
  have HMY := Lib.hid (fun W h => lawmay_any l hfit q hq p1 n1 c1 W h)
  clear hs1 hs2 hfit hq wfr
  by_cases hk1 : k < 1
  · go_enter Try.func3, Try.ntmps3
    go_wp2_with (first | (go_at_call 8; refine (HMY.out _ HLS.out).mono ?_; rintro e wm ⟨rfl, hb⟩; have HBX := Lib.hid hb; clear hb) | (go_at_call 9; refine (known23_any _).mono ?_; rintro e w9 ⟨rfl, hb9⟩; have HB9 := Lib.hid (HBX.out.trans (hb9.mono HBX.out.size)); clear hb9))
    go_ret
    exact ⟨rfl, HB9.out⟩
  by_cases hk2 : 64 < k
  · go_enter Try.func3, Try.ntmps3
    go_wp2_with (first | (go_at_call 8; refine (HMY.out _ HLS.out).mono ?_; rintro e wm ⟨rfl, hb⟩; have HBX := Lib.hid hb; clear hb) | (go_at_call 9; refine (known23_any _).mono ?_; rintro e w9 ⟨rfl, hb9⟩; have HB9 := Lib.hid (HBX.out.trans (hb9.mono HBX.out.size)); clear hb9))
    go_ret
    exact ⟨rfl, HB9.out⟩
  by_cases hl20 : 20 < n1
  · go_enter Try.func3, Try.ntmps3
    go_wp2_with (first | (go_at_call 8; refine (HMY.out _ HLS.out).mono ?_; rintro e wm ⟨rfl, hb⟩; have HBX := Lib.hid hb; clear hb) | (go_at_call 9; refine (known23_any _).mono ?_; rintro e w9 ⟨rfl, hb9⟩; have HB9 := Lib.hid (HBX.out.trans (hb9.mono HBX.out.size)); clear hb9))
    go_ret
    exact ⟨rfl, HB9.out⟩
  by_cases hp200 : 200 < n2
  · go_enter Try.func3, Try.ntmps3
    go_wp2_with (first | (go_at_call 8; refine (HMY.out _ HLS.out).mono ?_; rintro e wm ⟨rfl, hb⟩; have HBX := Lib.hid hb; clear hb) | (go_at_call 9; refine (known23_any _).mono ?_; rintro e w9 ⟨rfl, hb9⟩; have HB9 := Lib.hid (HBX.out.trans (hb9.mono HBX.out.size)); clear hb9))
    go_ret
    exact ⟨rfl, HB9.out⟩
  by_cases hf0 : fr < 0
  · go_enter Try.func3, Try.ntmps3
    go_wp2_with (first | (go_at_call 8; refine (HMY.out _ HLS.out).mono ?_; rintro e wm ⟨rfl, hb⟩; have HBX := Lib.hid hb; clear hb) | (go_at_call 9; refine (known23_any _).mono ?_; rintro e w9 ⟨rfl, hb9⟩; have HB9 := Lib.hid (HBX.out.trans (hb9.mono HBX.out.size)); clear hb9))
    go_ret
    exact ⟨rfl, HB9.out⟩
  cases q
  · go_enter Try.func3, Try.ntmps3
    go_wp2_with (first | (go_at_call 8; refine (HMY.out _ HLS.out).mono ?_; rintro e wm ⟨rfl, hb⟩; have HBX := Lib.hid hb; clear hb) | (go_at_call 9; refine (known23_any _).mono ?_; rintro e w9 ⟨rfl, hb9⟩; have HB9 := Lib.hid (HBX.out.trans (hb9.mono HBX.out.size)); clear hb9))
    go_ret
    exact ⟨rfl, HB9.out⟩
  have HOK : Hid (∀ x ∈ l, x.may = true) := Lib.hid (HQ.out.1 rfl)
  have hk1 : 1 ≤ k := by omega
  have hk2 : k ≤ 64 := by omega
  have hk0 : 0 < k := by omega
  have hl20 : n1 ≤ 20 := by omega
  have hp200 : n2 ≤ 200 := by omega
  have hf0 : 0 ≤ fr := by omega
  clear HQ
  obtain ⟨K, rfl⟩ := Int.eq_ofNat_of_zero_le (show 0 ≤ k by omega)
  go_enter Try.func3, Try.ntmps3
  go_wp2_with (go_at_call 8; refine (HMY.out _ HLS.out).mono ?_; rintro e wm ⟨rfl, hb⟩; have HBX := Lib.hid hb; clear hb)
  have HBM := HBX
  clear HBX
  go_loopw [11] (fun i wr => ∃ a : Nat, a ≤ n1 ∧ i = .int .i64 a ∧ Below w.heap.size w wr ∧ ∀ (i j : Nat) (x y : Lt), i < a → j < i → l[i]? = some x → l[j]? = some y → x ≠ y) (fun i _ => n1 - (intOf i).toNat)
  case atStart => exact ⟨0, Nat.zero_le _, rfl, HBM.out, fun i j x y h => absurd h (Nat.not_lt_zero _)⟩
  case round =>
    obtain ⟨a, ha, rfl, hbw, hne⟩ := hrel
    have HBW := Lib.hid hbw; have HNE := Lib.hid hne
    clear hbw hne
    by_cases hlt : a < n1
    · obtain ⟨x, hx⟩ : ∃ x, l[a]? = some x := ⟨_, List.getElem?_eq_getElem (by have := HLN.out; omega)⟩
      have HX := Lib.hid hx
      clear hx
      go_wp2_with fail
      go_loopw [12] (fun i wr => ∃ b : Nat, b ≤ a ∧ i = .int .i64 b ∧ Below w.heap.size w wr ∧ ∀ (j : Nat) (y : Lt), j < b → l[j]? = some y → x ≠ y) (fun i _ => a - (intOf i).toNat)
      case atStart => exact ⟨0, Nat.zero_le _, rfl, HBW.out, fun j y h => absurd h (Nat.not_lt_zero _)⟩
      case round =>
        obtain ⟨b, hb, rfl, hbw, hne⟩ := hrel
        have HBV := Lib.hid hbw; have HNB := Lib.hid hne
        clear hne
        by_cases hlt2 : b < a
        · obtain ⟨y, hy⟩ : ∃ y, l[b]? = some y := ⟨_, List.getElem?_eq_getElem (by have := HLN.out; omega)⟩
          have HY := Lib.hid hy
          obtain ⟨bb, o, rfl, hbb, hr⟩ := (HLS.out.below hbw).at HX.out
          obtain ⟨bb', o', e', hbb', hr'⟩ := (HLS.out.below hbw).at hy
          injection e' with e'
          injection e' with e1 e2
          subst e1 e2
          obtain ⟨f1, f2⟩ := loL_of hr (Lt.cells_length x)
          obtain ⟨f3, f4⟩ := loL_of hr' (Lt.cells_length y)
          obtain ⟨q, hq⟩ : ∃ q, Lt.eqB x y = q := ⟨_, rfl⟩
          have hE : ∀ W, (Op.equalIn 10000 35 (.agg x.cells.toArray) (.agg y.cells.toArray)).run Try.prog W = .ok q W := fun W => by rw [← hq]; exact eqInLt x y W
          have HQ := Lib.hid (hq ▸ Lt.eqB_iff x y : (q = true ↔ x = y))
          have hG := guardneqLt
          have hG2 := guardeqlLt
          generalize x.cells = cx at *
          generalize y.cells = cy at *
          clear hy hr hr' hbw hq
          cases q
          · go_wp2_with fail
            go_region
            go_wp2
            go_roundw
            case rel => exact ⟨b + 1, by omega, by go_num, HBV.out.drew, fun j z hj hz => by
              by_cases hjb : j = b
              · subst hjb
                rw [HY.out] at hz
                injection hz with hz
                subst hz
                exact fun e => absurd (HQ.out.2 e) (by simp)
              · exact HNB.out j z (by omega) hz⟩
            case measure => simp [intOf]; omega
          · have HBX := Lib.hid HBV.out.drew
            go_wp2_with fail
            go_region
            go_wp2_with (go_at_call 9; refine (known23_any _).mono ?_; rintro e w9 ⟨rfl, hb9⟩; have HB9 := Lib.hid (HBX.out.trans (hb9.mono HBX.out.size)); clear hb9)
            go_ret
            exact ⟨rfl, HB9.out⟩
        · obtain rfl : b = a := by omega
          clear hbw
          go_wp2
          go_roundw
          case rel => exact ⟨b + 1, by omega, by go_num, HBV.out, fun i j u v hi hj hu hv => by
            by_cases hib : i = b
            · subst hib
              rw [HX.out] at hu
              injection hu with hu
              subst hu
              exact HNB.out j v hj hv
            · exact HNE.out i j u v (by omega) hj hu hv⟩
          case measure => simp [intOf]; omega
    · obtain rfl : a = n1 := by omega
      have HAP : Hid (∀ x, Nt.cnt x l ≤ 1) := Lib.hid (cnt_apart (fun i j x y hi hj hx hy => HNE.out i j x y (by have h1 := (List.getElem?_eq_some_iff.1 hx).1; have h2 := HLN.out; omega) hj hx hy))
      have HBB := Lib.hid HBW.out.size
      have HNW := Lib.hid (nnew_any (K : Int) hk1 hk2 wr)
      have hmk := mk_ints a (by omega)
      go_wp2_with (first
        | (go_at_call 10; refine HNW.out.mono ?_; rintro e w2 ⟨rfl, hn, hb⟩; have HN2 := Lib.hid hn; have HB2 := Lib.hid (HBW.out.trans (hb.mono HBW.out.size)); have HSN := Lib.hid (nsend_new l HFT.out p1 a c1 w2 wr.heap.size (K : Int) hn hk0 (HLS.out.below HB2.out) HOK.out (by have := HLN.out; omega) (fun hne b hb => Nat.lt_of_lt_of_le (ls_block HLS.out hne b hb) HBB.out)); clear hn hb)
        | (go_at_call 11; refine HSN.out.mono ?_; rintro e w3 ⟨rfl, v3, hn, ht⟩; have HC3 := Lib.hid (ncalm_any w3 wr.heap.size wr.heap.size (K : Int) false v3 _ hn hk0 calm); have HB3 := Lib.hid (Turn.below HB2.out HB2.out.size ht (fun i hi => by have := HBB.out; omega)); clear hn ht)
        | (go_at_call 12; refine HC3.out.mono ?_; rintro e w4 ⟨rfl, hn, ht⟩; have HN4 := Lib.hid hn; have HB4 := Lib.hid (Turn.below HB3.out HB3.out.size ht (fun i hi => by have := HBB.out; omega)); clear hn ht))
      clear hmk HNW HN2 HSN HC3 HBM
      have HG4 := Lib.hid (block_lt HN4.out.2.1)
      have HR5 := Lib.hid (new_rowW w4 (.cells (rowI (List.replicate a 0)) 3 (0, 0)) _ rfl)
      have HN5 := Lib.hid (HN4.out.below ((Below.refl _ _).alloc (Nat.le_refl _) (.cells (rowI (List.replicate a 0)) 3 (0, 0))))
      have HB5 := Lib.hid (HB4.out.alloc HB4.out.size (.cells (rowI (List.replicate a 0)) 3 (0, 0)))
      have HV4 := Lib.hid (fun (b : Nat) (hb : v3.ownBlock = some b) => (recs_base HN4.out.2.2.1 hb).2)
      generalize w4.alloc (.cells (rowI (List.replicate a 0)) 3 (0, 0)) = w5 at *
      have HGC : Hid (w.heap.size ≤ wr.heap.size ∧ wr.heap.size < w4.heap.size ∧ w.heap.size ≤ w4.heap.size) := Lib.hid (by have h1 := HBB.out; have h2 := HG4.out; omega)
      generalize w4.heap.size = cb at *
      generalize wr.heap.size = g at *
      clear HG4 HBB HBW HNE HB2 HB3 HB4
      go_loopw [16] (fun i wr => ∃ (t : Nat) (v : Value) (lst : List Hd) (nf : Lt → Nat) (cs : List Int), t ≤ K ∧ i = .int .i64 t ∧ Below w.heap.size w wr ∧ IsN wr g g (K : Int) calm v lst ∧ wr.heap[cb]? = some (.cells (rowI cs) 3 (0, 0)) ∧ cs.length = a ∧ (∀ (j : Nat) (x : Lt), l[j]? = some x → cs[j]? = some ((nf x : Nat) : Int)) ∧ Nt.Gone (K : Int) calm l t lst nf ∧ (t = K → lst = []) ∧ (∀ b, v.ownBlock = some b → b ≠ cb) ∧ lst.length ≤ 20) (fun i _ => K - (intOf i).toNat)
      case atStart => exact ⟨0, v3, l.map h0, fun _ => 0, List.replicate a 0, Nat.zero_le _, rfl, HB5.out, HN5.out, HR5.out, by simp, fun j x hx => by
        rw [List.getElem?_replicate, if_pos (by have h1 := (List.getElem?_eq_some_iff.1 hx).1; have h2 := HLN.out; omega)]; rfl, Nt.Gone.start HAP.out, fun h => by omega, fun b hb e => by have := HV4.out b hb; omega, by rw [List.length_map]; have := HLN.out; omega⟩
      case round =>
        obtain ⟨t, v, lst, nf, cs, ht, rfl, hbw, hn, hrow, hcl, hcs, hgone, hend, hvc, hll⟩ := hrel
        have HBW := Lib.hid hbw; have HN := Lib.hid hn; have HROW := Lib.hid hrow; have HCL := Lib.hid hcl; have HCS := Lib.hid hcs; have HGO := Lib.hid hgone; have HEND := Lib.hid hend; have HVC := Lib.hid hvc; have HLL := Lib.hid hll
        clear hbw hn hrow hcl hcs hgone hend hvc hll
        by_cases hlt : t < K
        · have HSZ := Lib.hid HBW.out.size
          go_wp2_with fail
          go_loopw [17, 18] (fun pv i wq => ∃ (j : Nat) (qs : List Int), j ≤ a ∧ i = .int .i64 j ∧ wq.ownsRow wr.heap.size 3 1 pv qs.length (encL intC qs) ∧ Below wr.heap.size wr wq ∧ qs.length ≤ j) (fun _ i _ => a - (intOf i).toNat)
          case atStart => exact ⟨0, [], Nat.zero_le _, rfl, World.ownsRow_nil _ _ _ _, Below.refl _ _, Nat.le_refl _⟩
          case round =>
            obtain ⟨j, qs, hj, rfl, hown, hbq, hql⟩ := hrel
            have HO := Lib.hid hown; have HBQ := Lib.hid hbq; have HQL := Lib.hid hql
            clear hown hbq hql
            go_upto_region 21 with fail
            go_cut [103] (fun cv wx => cv = .bool (decide (j < a) && decide (0 < n2)) ∧ wx = wr)
            case first =>
              by_cases hja : j < a
              · have i1 : (j : Int) < (a : Int) := by omega
                by_cases hz : 0 < n2
                · have i2 : (0 : Int) < (n2 : Int) := by omega
                  go_wp2_with fail
                  all_goals go_meet
                  all_goals exact ⟨by rw [decide_eq_true hja, decide_eq_true hz]; rfl, rfl⟩
                · have i2 : ¬ (0 : Int) < (n2 : Int) := by omega
                  go_wp2_with fail
                  all_goals go_meet
                  all_goals exact ⟨by rw [decide_eq_false hz, Bool.and_false], rfl⟩
              · have i1 : ¬ (j : Int) < (a : Int) := by omega
                go_wp2_with fail
                all_goals go_meet
                all_goals exact ⟨by rw [decide_eq_false hja, Bool.false_and], rfl⟩
            case rest =>
              obtain ⟨rfl, rfl⟩ := hcut
              obtain ⟨cnd, hcnd⟩ : ∃ c, (decide (j < a) && decide (0 < n2)) = c := ⟨_, rfl⟩
              rw [hcnd]
              have HCND := Lib.hid hcnd
              clear hcnd
              cases cnd
              · have HGN := HGO.out
                obtain ⟨pq, pc, rfl⟩ := rec_form HO.out
                obtain ⟨TL, hTL⟩ : ∃ z, Nt.told (K : Int) calm qs lst = z := ⟨_, rfl⟩
                obtain ⟨ST, hST⟩ : ∃ z, Nt.stay (K : Int) calm qs lst = z := ⟨_, rfl⟩
                have HTK := Lib.hid (ntk_any qs pq _ pc wc g g (K : Int) calm v lst (HN.out.below HBQ.out) hk0 (LS.of_own HO.out (fun _ => rfl) (by decide)) (by have := HLL.out; omega) (fun x hx => by have := HGN.age x hx; omega) (by have h1 := HGC.out; have h2 := HSZ.out; have h3 := HBQ.out.size; have h4 := block_lt HN.out.2.1; omega))
                rw [hTL, hST] at HTK
                have HTM : Hid (∀ x ∈ TL, x ∈ l) := Lib.hid (fun x hx => HGN.inn x (Nt.told_mem (hTL ▸ hx)))
                have HT1 : Hid (∀ x, Nt.cnt x TL ≤ 1) := Lib.hid (fun x => by rw [← hTL]; exact Nat.le_trans (Nt.told_cnt _ _ _ _ x) (HGN.few x))
                have HG2 := Lib.hid (HGN.tick qs)
                rw [hTL, hST] at HG2
                have HSE : Hid (t + 1 = K → ST = []) := Lib.hid (fun h => by rw [← hST]; exact HGN.empty qs (by omega))
                have HSL : Hid (ST.length ≤ 20 ∧ TL.length ≤ 40) := Lib.hid (by have h1 := Nt.stay_le (K : Int) calm qs lst; have h2 := Nt.told_le (K : Int) calm qs lst; rw [hST] at h1; rw [hTL] at h2; have := HLL.out; omega)
                have HNM := Lib.hid HGN.most
                have HCB : Hid (cb < wr.heap.size ∧ g < wr.heap.size ∧ wr.heap.size ≤ wc.heap.size) := Lib.hid ⟨block_lt HROW.out, block_lt HN.out.2.1, HBQ.out.size⟩
                clear hTL hST HGN
                go_wp2_with (go_at_call 13; refine HTK.out.mono ?_; rintro e w7 ⟨cq, cn, cc, v7, rfl, hl7, hf7, hn7, hv7, ht7⟩; have HL7 := Lib.hid hl7; have HF7 := Lib.hid hf7; have HN7 := Lib.hid hn7; have HV7 := Lib.hid hv7; have HR7 := Lib.hid ((ht7.block _ (by have := HCB.out; omega) (by have := HGC.out; omega)).trans ((HBQ.out.block _ (block_lt HROW.out)).trans HROW.out)); have HB7 := Lib.hid (Turn.below (HBW.out.trans (HBQ.out.mono HSZ.out)) (by have h1 := HSZ.out; have h2 := HBQ.out.size; omega) ht7 (fun i hi => by have := HGC.out; omega)); clear hl7 hf7 hn7 hv7 ht7)
                have hcn := HL7.out.length.1
                have hcn2 := HL7.out.length.2
                unfold maxLen at hcn2
                have HCN := Lib.hid hcn
                clear hcn HTK
                go_loopw [20] (fun i wr => ∃ (b : Nat) (cs : List Int), b ≤ cn ∧ i = .int .i64 b ∧ Turn (· = cb) w7 wr ∧ wr.heap[cb]? = some (.cells (rowI cs) 3 (0, 0)) ∧ cs.length = a ∧ ∀ (j : Nat) (x : Lt), l[j]? = some x → cs[j]? = some ((nf x + Nt.cnt x (TL.take b) : Nat) : Int)) (fun i _ => cn - (intOf i).toNat)
                case atStart => exact ⟨0, cs, Nat.zero_le _, rfl, Turn.refl _ _, HR7.out, HCL.out, fun j x hx => by rw [List.take_zero, Nt.cnt_nil, Nat.add_zero]; exact HCS.out j x hx⟩
                case round =>
                  obtain ⟨b, cs, hb, rfl, htu, hrow, hcl, hcs⟩ := hrel
                  have HTU := Lib.hid htu; have HRW := Lib.hid hrow; have HCL2 := Lib.hid hcl; have HCS2 := Lib.hid hcs
                  clear htu hrow hcl hcs
                  by_cases hbl : b < cn
                  · obtain ⟨y, hy⟩ : ∃ y, TL[b]? = some y := ⟨_, List.getElem?_eq_getElem (by have := HCN.out; omega)⟩
                    have HY := Lib.hid hy
                    have HTS : Hid (∀ x, Nt.cnt x (TL.take (b + 1)) = Nt.cnt x (TL.take b) + (if Lt.eqB x y = true then 1 else 0)) := Lib.hid (fun x => by
                      rw [List.take_add_one, hy, Nt.cnt_append]
                      unfold Nt.cnt
                      by_cases h : Lt.eqB x y = true <;> simp [h])
                    have HC1 : Hid (∀ x, Nt.cnt x (TL.take b) ≤ 1) := Lib.hid (fun x => Nat.le_trans (cnt_take_le x TL b) (HT1.out x))
                    clear hy
                    go_wp2_with fail
                    go_loopw [21, 22] (fun f i wr => ∃ (j : Nat) (cs : List Int) (fb : Bool), j ≤ a ∧ i = .int .i64 j ∧ f = .bool fb ∧ Turn (· = cb) w7 wr ∧ wr.heap[cb]? = some (.cells (rowI cs) 3 (0, 0)) ∧ cs.length = a ∧ (∀ (m : Nat) (x : Lt), m < j → l[m]? = some x → cs[m]? = some ((nf x + Nt.cnt x (TL.take (b + 1)) : Nat) : Int)) ∧ (∀ (m : Nat) (x : Lt), j ≤ m → l[m]? = some x → cs[m]? = some ((nf x + Nt.cnt x (TL.take b) : Nat) : Int)) ∧ (fb = true ↔ ∃ m, m < j ∧ l[m]? = some y)) (fun _ i _ => a - (intOf i).toNat)
                    case atStart => exact ⟨0, cs, false, Nat.zero_le _, rfl, rfl, HTU.out, HRW.out, HCL2.out, fun m x h => absurd h (Nat.not_lt_zero _), fun m x _ hx => HCS2.out m x hx, by simp⟩
                    case round =>
                      obtain ⟨j, cs, fb, hj, rfl, rfl, htu, hrow, hcl, hlo, hhi, hfb⟩ := hrel
                      have HTU := Lib.hid htu; have HRW := Lib.hid hrow; have HCL3 := Lib.hid hcl; have HLO := Lib.hid hlo; have HHI := Lib.hid hhi; have HFB := Lib.hid hfb
                      clear htu hrow hcl hlo hhi hfb
                      by_cases hja : j < a
                      · obtain ⟨x, hx⟩ : ∃ x, l[j]? = some x := ⟨_, List.getElem?_eq_getElem (by have := HLN.out; omega)⟩
                        have HX := Lib.hid hx
                        have hbw := Turn.below HB7.out HB7.out.size HTU.out (fun i hi => by have := HGC.out; omega)
                        obtain ⟨bb, o, rfl, hbb, hr⟩ := (HLS.out.below hbw).at hx
                        obtain ⟨bb', o', rfl, hbb', hr'⟩ := (HL7.out.turn HTU.out (fun b hb e => by have h1 := HF7.out b hb; have h2 := HCB.out; omega)).at HY.out
                        obtain ⟨f1, f2⟩ := loL_of hr (Lt.cells_length x)
                        obtain ⟨f3, f4⟩ := loL_of hr' (Lt.cells_length y)
                        obtain ⟨q, hq⟩ : ∃ q, Lt.eqB x y = q := ⟨_, rfl⟩
                        have hE : ∀ W, (Op.equalIn 10000 35 (.agg x.cells.toArray) (.agg y.cells.toArray)).run Try.prog W = .ok q W := fun W => by rw [← hq]; exact eqInLt x y W
                        have HQ := Lib.hid (hq ▸ Lt.eqB_iff x y : (q = true ↔ x = y))
                        have HQ2 := Lib.hid hq
                        have hG := guardneqLt
                        have hG2 := guardeqlLt
                        have hcj := HHI.out j x (Nat.le_refl _) hx
                        obtain ⟨z, hz⟩ : ∃ z, nf x + Nt.cnt x (TL.take b) = z := ⟨_, rfl⟩
                        have hzl : z ≤ 1000 := by have h1 := HNM.out x; have h2 := HC1.out x; omega
                        rw [hz] at hcj
                        have HZ := Lib.hid hz
                        have k33 : wr.cell? ⟨cb, j, none⟩ = some (.int .i64 (z : Int)) := (cell_of_row wr cb j _ _ _ HRW.out).trans (rowI_get hcj)
                        have k34 : wr.frozen? ⟨cb, j, none⟩ = false := frozen_of_row wr cb j _ _ HRW.out
                        have hzi : (z : Int) ≤ 1000 := by omega
                        generalize x.cells = cx at *
                        generalize y.cells = cy at *
                        clear hx hr hr' hbw hq hz hcj
                        cases q
                        · go_wp2_with fail
                          go_region
                          go_wp2
                          go_roundw
                          case rel => exact ⟨j + 1, cs, fb, by omega, by go_num, by first | rfl | trivial, HTU.out.drew, row_drew HRW.out, HCL3.out, fun m u hm hu => by
                            by_cases hmj : m = j
                            · subst hmj
                              rw [HX.out] at hu; injection hu with hu; subst hu
                              rw [HTS.out, HQ2.out, if_neg (by simp), Nat.add_zero]
                              exact HHI.out m x (Nat.le_refl _) HX.out
                            · exact HLO.out m u (by omega) hu, fun m u hm hu => HHI.out m u (by omega) hu, by
                            rw [HFB.out]
                            constructor
                            · rintro ⟨m, hm, hu⟩; exact ⟨m, by omega, hu⟩
                            · rintro ⟨m, hm, hu⟩
                              by_cases hmj : m = j
                              · subst hmj
                                rw [HX.out] at hu; injection hu with hu
                                exact absurd (HQ.out.2 hu) (by simp)
                              · exact ⟨m, by omega, hu⟩⟩
                          case measure => simp [intOf]; omega
                        · go_wp2_with fail
                          go_region
                          go_wp2_with fail
                          go_roundw
                          case rel =>
                            have hrs := heap_setCell_same wr.drew cb j _ _ (.int .i64 ((z : Int) + 1)) (row_drew HRW.out)
                            rw [rowI_set] at hrs
                            have hts : Turn (· = cb) wr.drew (wr.drew.setCell ⟨cb, j, none⟩ (.int .i64 ((z : Int) + 1))) := (Turn.refl (· = cb) wr.drew).setCell rfl _ _
                            refine ⟨j + 1, cs.set j ((z : Int) + 1), true, by omega, by go_num, by first | rfl | trivial, HTU.out.drew.trans hts, hrs, by rw [List.length_set]; exact HCL3.out, fun m u hm hu => ?_, fun m u hm hu => ?_, ?_⟩
                            · by_cases hmj : m = j
                              · subst hmj
                                rw [HX.out] at hu; injection hu with hu; subst hu
                                rw [List.getElem?_set_self (by have := HCL3.out; omega), HTS.out, HQ2.out, if_pos rfl, ← Nat.add_assoc, HZ.out]
                                rfl
                              · rw [List.getElem?_set_ne (fun e => hmj e.symm)]
                                exact HLO.out m u (by omega) hu
                            · rw [List.getElem?_set_ne (by omega)]
                              exact HHI.out m u (by omega) hu
                            · simp only [true_iff]
                              exact ⟨j, by omega, by rw [HX.out, HQ.out.1 (by first | rfl | trivial)]⟩
                          case measure => simp [intOf]; omega
                      · obtain rfl : j = a := by omega
                        have hfb : fb = true := HFB.out.2 (by
                          obtain ⟨m, hm⟩ := List.mem_iff_getElem?.1 (HTM.out y (List.mem_of_getElem? HY.out))
                          exact ⟨m, by have h1 := (List.getElem?_eq_some_iff.1 hm).1; have h2 := HLN.out; omega, hm⟩)
                        subst hfb
                        go_wp2_with fail
                        go_roundw
                        case rel => exact ⟨b + 1, cs, by omega, by go_num, HTU.out, HRW.out, HCL3.out, fun m x hx => HLO.out m x (by have h1 := (List.getElem?_eq_some_iff.1 hx).1; have h2 := HLN.out; omega) hx⟩
                        case measure => simp [intOf]; omega
                  · obtain rfl : b = cn := by omega
                    have HTE : Hid (TL.take b = TL) := Lib.hid (List.take_of_length_le (by have := HCN.out; omega))
                    rw [HTE.out] at HCS2
                    have HB8 := Lib.hid (Turn.below HB7.out HB7.out.size HTU.out (fun i hi => by have := HGC.out; omega))
                    have HN8 := Lib.hid (HN7.out.turn HTU.out (by have := HGC.out; omega) (fun i hi e => by have h1 := HV7.out i hi; have h2 := HCB.out; omega))
                    go_wp2
                    go_roundw
                    case rel => exact ⟨t + 1, v7, ST, fun x => nf x + Nt.cnt x TL, cs, by omega, by go_num, HB8.out, HN8.out, HRW.out, HCL2.out, HCS2.out, HG2.out, HSE.out, fun i hi e => by have h1 := HV7.out i hi; have h2 := HCB.out; omega, HSL.out.1⟩
                    case measure => simp [intOf]; omega
              · have hja : j < a ∧ 0 < n2 := by have := HCND.out; simpa using this
                obtain ⟨hja, hz⟩ := hja
                have i2 : (0 : Int) < (n2 : Int) := by omega
                have i3 : (n2 : Int) ≠ 0 := by omega
                have hA1 := Int.tmod_nonneg (n2 : Int) hf0
                have hA2 := Int.tmod_lt_of_pos fr i2
                have hA3 : fr.tmod (n2 : Int) = fr % (n2 : Int) := Int.tmod_eq_emod_of_nonneg hf0
                obtain ⟨ix, hix, hix2⟩ : ∃ ix : Nat, (fr % (n2 : Int) + (t : Int) * 7 + (j : Int)) % (n2 : Int) = (ix : Int) ∧ ix < n2 := by
                  have h1 := Int.emod_nonneg (fr % (n2 : Int) + (t : Int) * 7 + (j : Int)) i3
                  have h2 := Int.emod_lt_of_pos (fr % (n2 : Int) + (t : Int) * 7 + (j : Int)) i2
                  exact ⟨((fr % (n2 : Int) + (t : Int) * 7 + (j : Int)) % (n2 : Int)).toNat, by omega, by omega⟩
                obtain ⟨z, hzz⟩ : ∃ z, ps[ix]? = some z := ⟨_, List.getElem?_eq_getElem (by have := HPN.out; omega)⟩
                obtain ⟨pb, po, rfl, hpb, hpr⟩ := (HPS.out.below (HBW.out.trans (HBQ.out.mono HSZ.out))).at hzz
                have hpc : wc.cell? ⟨pb, po + ix, none⟩ = some (.int .i64 z) := by have := hpr 0 _ rfl; simpa using this
                have i4 : (ix : Int) < (n2 : Int) := by omega
                clear hzz hpr
                go_wp2_with (at_builtin; refine wpList_append_recs elemI rfl _ _ rfl wr.heap.size _ qs.length qs rfl (recs_below HO.out ((Below.refl _ _).alloc (Nat.le_refl _) (.cells #[.int .i64 z] 3 (0, 0)))) _ [z] rfl (row_one (enc := intC) (x := z) (new_rowW _ (.cells #[.int .i64 z] 3 (0, 0)) _ rfl) rfl (fun _ => rfl) (by decide)) (by have := HQL.out; show qs.length + 1 ≤ _; omega) (by have := HBQ.out.size; simp; omega) ?_; intro vn wn hown hg hnn hat; have HO2 := Lib.hid hown; have HBN := Lib.hid ((HBQ.out.alloc HBQ.out.size (.cells #[.int .i64 z] 3 (0, 0))).grown hg (HBQ.out.alloc HBQ.out.size (.cells #[.int .i64 z] 3 (0, 0))).size (fun b hb => (recs_base HO.out hb).1)); clear hown hg hnn hat)
                go_roundw
                case rel => exact ⟨j + 1, qs ++ [z], by omega, by go_num, by rw [List.length_append]; exact HO2.out, HBN.out, by have := HQL.out; simp; omega⟩
                case measure => simp [intOf]; omega
        · obtain rfl : t = K := by omega
          have hl0 : lst = [] := HEND.out rfl
          subst hl0
          have HGN := Lib.hid HGO.out
          go_wp2_with fail
          go_loopw [23] (fun i wq => ∃ j : Nat, j ≤ a ∧ i = .int .i64 j ∧ wq = wr) (fun i _ => a - (intOf i).toNat)
          case atStart => exact ⟨0, Nat.zero_le _, rfl, rfl⟩
          case round =>
            obtain ⟨j, hj, rfl, rfl⟩ := hrel
            by_cases hja : j < a
            · obtain ⟨x, hx⟩ : ∃ x, l[j]? = some x := ⟨_, List.getElem?_eq_getElem (by have := HLN.out; omega)⟩
              have hcj := HCS.out j x hx
              obtain ⟨z, hz⟩ : ∃ z, nf x = z := ⟨_, rfl⟩
              rw [hz] at hcj
              have hzk : (z : Int) ≤ (t : Int) := by have := HGN.out.most x; omega
              have hzc : calm = true → (1 : Int) ≤ (z : Int) := fun h => by
                rcases HGN.out.least h x (List.mem_of_getElem? hx) with h1 | h1
                · cases h1
                · omega
              have k33 : wr.cell? ⟨cb, j, none⟩ = some (.int .i64 (z : Int)) := (cell_of_row wr cb j _ _ _ HROW.out).trans (rowI_get hcj)
              clear hx hcj hz
              cases calm
              · clear hzc
                go_wp2_with fail
                go_roundw
                case rel => exact ⟨j + 1, by omega, by go_num, by first | rfl | trivial⟩
                case measure => simp [intOf]; omega
              · have hz1 := hzc rfl
                clear hzc
                go_wp2_with fail
                go_roundw
                case rel => exact ⟨j + 1, by omega, by go_num, by first | rfl | trivial⟩
                case measure => simp [intOf]; omega
            · obtain rfl : j = a := by omega
              have HBE := Lib.hid HBW.out.size
              have HLE := Lib.hid (nlen_any wr g g (t : Int) calm v [] HN.out hk0)
              go_wp2_with (first
                | (go_at_call 14; refine HLE.out.mono ?_; rintro e wx ⟨rfl, rfl⟩)
                | (go_at_call 13; refine (ntk_any [] none 0 0 wr g g (t : Int) calm v [] HN.out hk0 (LS.nil _) (by simp) (fun x hx => by cases hx) (Nat.le_of_lt (block_lt HN.out.2.1))).mono ?_; rintro e w7 ⟨cq, cn, cc, v7, rfl, hl7, hf7, hn7, hv7, ht7⟩; have hcn : cn = 0 := hl7.length.1; subst hcn; have HBX := Lib.hid (Turn.below HBW.out HBE.out ht7 (fun i hi => by have := HGC.out; omega)); clear hl7 hf7 hn7 hv7 ht7)
                | (go_at_call 9; refine (known23_any _).mono ?_; rintro e w9 ⟨rfl, hb9⟩; have HB9 := Lib.hid (HBX.out.trans (hb9.mono HBX.out.size)); clear hb9))
              go_ret
              exact ⟨rfl, HB9.out⟩

set_option maxRecDepth 100000 in
theorem lifted (os : Os) (started : os.Started) (H : Type) (enc : TypeId × Value → H) :
    ReturnsInHanded {} Try.checked os 3 .any (Rows.netComesSpec.pre6 enc Try.prog Try.f3 Rows.netComesRow.domain false) (Rows.netComesSpec.post enc Try.prog Try.f3 false true false false) := by
  refine returnsInHanded_of_change (C := Try.checked) own started (by kernel_rfl) Try.func3
    (ChangeSpec.witness6 (enc := enc) (C := Try.checked) false ⟨#[], #[.int .i64 0, .slice none 0 0, .slice none 0 0, .int .i64 0, .bool false], []⟩ 8 (by kernel_rfl) (by kernel_rfl) (by kernel_rfl) (by kernel_rfl)) ?_
  intro W base args ds gs before hval0 hW hcnd _
  have hval : ∀ (j : Nat) t v, Try.f3.params[j]? = some t → args[j]? = some v → Value.okWide Try.prog W .any base t v := hval0
  have hW' := hW
  obtain ⟨p, q, hA0, hV, rfl, hfz, hnd⟩ := hW
  have hA : DataW.TrodAll enc Try.prog W 0 (fun _ => true) true Try.f3.params.toList args.toList ds p := hA0
  rw [Try.params3] at hA hval
  obtain ⟨v0, vs0, d0, ds0, p0, q0, hargs, rfl, rfl, h0, r0⟩ := trodAll_cons hA
  obtain ⟨v1, vs1, d1, ds1, p1, q1, rfl, rfl, rfl, h1, r1⟩ := trodAll_cons r0
  obtain ⟨v2, vs2, d2, ds2, p2, q2, rfl, rfl, rfl, h2, r2⟩ := trodAll_cons r1
  obtain ⟨v3, vs3, d3, ds3, p3, q3, rfl, rfl, rfl, h3, r3⟩ := trodAll_cons r2
  obtain ⟨v4, vs4, d4, ds4, p4, q4, rfl, rfl, rfl, h4, r4⟩ := trodAll_cons r3
  obtain ⟨rfl, rfl, rfl⟩ := trodAll_nil r4
  obtain rfl : args = #[v0, v1, v2, v3, v4] := by cases args; simp_all
  obtain ⟨k, rfl, rfl, rfl, wk⟩ := open_int Try.underlying3 (hval 0 3 v0 rfl rfl) h0
  obtain ⟨p1, n1, c1, l, rfl, hsl1, hfit⟩ := open_lettersA (hval 1 _ v1 rfl rfl) h1
  obtain ⟨p2, n2, c2, ps, rfl, hsl2⟩ := open_intsA (hval 2 _ v2 rfl rfl) h2
  obtain ⟨fr, rfl, rfl, rfl, wfr⟩ := open_int Try.underlying3 (hval 3 3 v3 rfl rfl) h3
  obtain ⟨calm, rfl, rfl, rfl⟩ := open_bool Try.underlying4 (hval 4 4 v4 rfl rfl) h4
  clear hA0 hval0
  refine (walk k p1 n1 c1 l p2 n2 c2 ps fr calm W hsl1 hfit hsl2 wfr).mono fun e W' ⟨he, hg⟩ => ?_
  subst he
  exact ⟨_, rfl, post_law laidOut rfl hW' ⟨rfl, rfl, rfl⟩ (by kernel_rfl) hg Try.underlying4 rfl⟩

theorem proved : Rows.NetComesSaid :=
  OpenClaim.holds_of_wide 3 Try.f3 rfl rfl rfl rfl rfl rfl rfl ⟨rfl, rfl, rfl, rfl, rfl⟩ rfl rfl rfl rfl rfl (by kernel_rfl) Try.func3 (by kernel_rfl)
    (of_decide_eq_true (by kernel_rfl)) (by unfold Func.isWrapper; first | (rw [if_pos (by decide +kernel)]; kernel_rfl) | (rw [if_neg (by decide +kernel)]; exact ⟨rfl, rfl⟩))
    (fun os started H enc _ => lifted os started H enc)
#print axioms proved
end Go.Proofs.Ytihilifpadpkbaa.netComes
