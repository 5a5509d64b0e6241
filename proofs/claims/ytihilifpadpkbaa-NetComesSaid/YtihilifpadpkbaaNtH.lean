/- Contracts: Copy, Same, Waiting of the net; which letters may be (the law's may). -/
import Derived.Test.YtihilifpadpkbaaNtG
import Derived.Test.YtihilifpadpkbaaNtF
import Derived.Deep.RegionHeld3
import Derived.BigRegion
import Derived.StillTailTactics
set_option linter.unusedVariables false
set_option linter.unusedSimpArgs false
namespace Go.Proofs.Ytihilifpadpkbaa
open Go.RowKit

set_option maxRecDepth 4000 in
set_option maxHeartbeats 400000 in
theorem cloneHd_any (v : Value) (l : List Hd) (hl : l.length ≤ 1073741824) (w : World) (hv : LS Hd.cells 16 w v l) :
    Calls Try.prog 36 #[v] w fun e w' => ∃ v', e = .returned v' ∧ w'.ownsRow w.heap.size 69 16 v' l.length (encL Hd.cells l) ∧ Below w.heap.size w w' := by
  have HV := Lib.hid hv
  obtain ⟨p, cap, rfl, h1, h2, h3⟩ := hv
  have hq := fun (W : World) => (Lib.run_eql_slice_nil (P := Try.prog) W _ _ p l.length cap 0 0 Try.underlying62)
  have H3 := Lib.hid h3; clear h3
  cases p with
  | none =>
    have hl0 : l = [] := by
      by_cases hl : l = []
      · exact hl
      · obtain ⟨b, o, h, _⟩ := H3.out hl; cases h
    subst hl0
    simp only [List.length_nil] at *
    go_enter Try.func36, Try.ntmps36
    go_wp2
    go_ret
    exact ⟨_, rfl, World.ownsRow_nil _ _ _ _, Below.refl _ _⟩
  | some ad =>
    generalize hn : l.length = n at *
    have HN := Lib.hid hn; clear hn
    go_enter Try.func36, Try.ntmps36
    go_wp2_with (at_builtin; refine wpList_append_recs elemHd rfl _ _ rfl w.heap.size _ 0 [] rfl (recs_of_row (new_rowW _ _ _ rfl) (Nat.le_refl _)) _ l rfl (HV.out.alloc _) (by have := HN.out; omega) (by simp) ?_; intro v1 w1 hown1 hg1 hn1 hat1)
    have HO : Hid (w1.ownsRow w.heap.size 69 16 v1 n (encL Hd.cells l)) := Lib.hid (by have := hown1; rw [Nat.zero_add, HN.out] at this; exact this)
    have HB : Hid (Below w.heap.size w w1) := Lib.hid (((Below.refl w.heap.size w).alloc (Nat.le_refl _) _).grown hg1 (by simp) (fun b hb => by injection hb with hb; simp at hb; omega))
    clear hown1 hg1 hn1 hat1
    go_wp2
    go_ret
    exact ⟨_, rfl, HO.out, HB.out⟩
section
attribute [local go_sem ↓] Hd_execLoad Hd_execStore
attribute [local go_sem] Hd_load Hd_store loL_drew okL_drew there_sc World.there_drew

set_option maxRecDepth 4000 in
set_option maxHeartbeats 1000000 in
theorem equalHd_any (l m : List Hd) (bv : Bool) (hbv : bv = true ↔ l = m) (p p' : Option Addr) (n n' cap cap' : Nat) (w : World) (hs : LS Hd.cells 16 w (.slice p n cap) l) (hs' : LS Hd.cells 16 w (.slice p' n' cap') m) :
    Calls Try.prog 37 #[.slice p n cap, .slice p' n' cap'] w fun e w' => e = .returned (.bool bv) ∧ Below w.heap.size w w' := by
  have HL := Lib.hid hs.length
  have HL' := Lib.hid hs'.length
  have HS := Lib.hid hs; have HS' := Lib.hid hs'; have HBV := Lib.hid hbv
  have hmax : n ≤ 9223372036854775807 := by have h1 := HL.out.2.1; have h2 := HL.out.2.2; simp only [maxLen] at h2; omega
  have hmax' : n' ≤ 9223372036854775807 := by have h1 := HL'.out.2.1; have h2 := HL'.out.2.2; simp only [maxLen] at h2; omega
  clear hs hs' hbv
  by_cases hnn : n = n'
  · subst hnn
    go_enter Try.func37, Try.ntmps37
    go_wp2
    go_loopw [13] (fun i wr => ∃ k : Nat, k ≤ n ∧ i = .int .i64 k ∧ Below w.heap.size w wr ∧ l.take k = m.take k) (fun i _ => n - (intOf i).toNat)
    case atStart => exact ⟨0, Nat.zero_le _, rfl, Below.refl _ _, rfl⟩
    case round =>
      obtain ⟨k, hk, rfl, hbw, heq⟩ := hrel
      have HBW := Lib.hid hbw; have HEQ := Lib.hid heq
      clear heq
      by_cases hlt : k < n
      · obtain ⟨x, hx⟩ : ∃ x, l[k]? = some x := ⟨_, List.getElem?_eq_getElem (by have := HL.out.1; omega)⟩
        obtain ⟨y, hy⟩ : ∃ y, m[k]? = some y := ⟨_, List.getElem?_eq_getElem (by have := HL'.out.1; omega)⟩
        have HX := Lib.hid hx; have HY := Lib.hid hy
        obtain ⟨b, o, rfl, hb, hr⟩ := (HS.out.below hbw).at hx
        obtain ⟨b', o', rfl, hb', hr'⟩ := (HS'.out.below hbw).at hy
        obtain ⟨f1, f2⟩ := loL_of hr (Hd.cells_length x)
        obtain ⟨f3, f4⟩ := loL_of hr' (Hd.cells_length y)
        obtain ⟨q, hq⟩ : ∃ q, Hd.eqB x y = q := ⟨_, rfl⟩
        have hE : ∀ W, (Op.equalIn 10000 69 (.agg x.cells.toArray) (.agg y.cells.toArray)).run Try.prog W = .ok q W := fun W => by rw [← hq]; exact eqInHd x y W
        have HQ := Lib.hid (hq ▸ Hd.eqB_iff x y : (q = true ↔ x = y))
        have hG := guardneqHd
        have hG2 := guardeqlHd
        generalize x.cells = cx at *
        generalize y.cells = cy at *
        clear hx hy hr hr' hbw hq
        cases q
        · go_wp2_with fail
          go_region
          go_wp2
          go_ret
          refine ⟨ret_bool ?_, HBW.out.drew⟩
          cases hb : bv
          · rfl
          · have h1 := HBV.out.1 hb
            have h2 := HX.out
            rw [h1, HY.out] at h2
            injection h2 with h2
            exact absurd (HQ.out.2 h2.symm) (by simp)
        · go_wp2_with fail
          go_region
          go_wp2
          go_roundw
          case rel => exact ⟨k + 1, by omega, by go_num, HBW.out.drew, by rw [List.take_add_one, List.take_add_one, HX.out, HY.out, HEQ.out, HQ.out.1 (by trivial)]⟩
          case measure => simp [intOf]; omega
      · obtain rfl : k = n := by omega
        have HF : Hid (bv = true) := Lib.hid (HBV.out.2 (by
          have := HEQ.out
          rwa [List.take_of_length_le (by have := HL.out.1; omega), List.take_of_length_le (by have := HL'.out.1; omega)] at this))
        go_wp2
        go_ret
        exact ⟨ret_bool HF.out.symm, HBW.out⟩
  · have HF : Hid (bv = false) := Lib.hid (by
      cases hb : bv
      · rfl
      · exact absurd (by rw [HL.out.1, HL'.out.1, HBV.out.1 hb]) hnn)
    have hnni : ¬ (n : Int) = (n' : Int) := by omega
    go_enter Try.func37, Try.ntmps37
    go_wp2
    go_ret
    exact ⟨ret_bool HF.out.symm, Below.refl _ _⟩
end

theorem own_monoR2 {w : World} {base b0 e n m : Nat} {v : Value} {xs : List Value} (h : w.ownsRow base e n v m xs) (h0 : b0 ≤ base) : w.ownsRow b0 e n v m xs := by
  obtain ⟨hl, hor⟩ := h
  refine ⟨hl, ?_⟩
  rcases hor with h | ⟨g, cap, cur, rfl, hg, hx⟩
  · exact .inl h
  · exact .inr ⟨g, cap, cur, rfl, Nat.le_trans h0 hg, hx⟩
set_option maxRecDepth 4000 in
set_option maxHeartbeats 2000000 in
theorem ncopy_any (w : World) (base g : Nat) (k : Int) (calm : Bool) (v : Value) (all : List Hd) (h : IsN w base g k calm v all) (hk : 0 < k) (hall : all.length ≤ 10000) (hbase : base ≤ w.heap.size) :
    Calls Try.prog 19 #[.pointer (some ⟨g, 0, none⟩)] w fun e w' => ∃ go vo, e = .returned (.pointer (some ⟨go, 0, none⟩)) ∧ IsN w' w.heap.size go k calm vo all ∧ Below w.heap.size w w' := by
  have HT := Lib.hid (nthere_any w base g k calm v all h hk)
  have hc := fun j => cell_of_row w g j _ _ _ h.2.1
  have HOW := Lib.hid h.2.2.1
  have hgl := block_lt h.2.1
  clear h
  go_enter Try.func19, Try.ntmps19
  go_wp2_with (go_at_call 27; refine HT.out.mono ?_; rintro e w' ⟨rfl, rfl⟩)
  have HV := Lib.hid ((LS.of_own HOW.out Hd.cells_length (by decide)))
  have d0 : w.cell? ⟨g, 0, none⟩ = some (.int .i64 k) := hc 0
  have d1 : w.cell? ⟨g, 1, none⟩ = some (.bool calm) := hc 1
  have d2 : w.cell? ⟨g, 2, none⟩ = some v := hc 2
  clear hc HT
  have hb1 : Below w.heap.size w w.drew := (Below.refl _ _).drew
  go_region_held3 (fun w' => w'.cell? ⟨g, 0, none⟩ = some (.int .i64 k) ∧ w'.cell? ⟨g, 1, none⟩ = some (.bool calm) ∧ w'.cell? ⟨g, 2, none⟩ = some v) (first | with_reducible exact ⟨d0, d1, d2⟩ | go_keep) (first
    | (go_at_call 36; refine (cloneHd_any v all (by omega) _ (HV.out.below hb1)).mono ?_; rintro e w2 ⟨v1, rfl, hown, hb2⟩; have hb1 := hb1.trans (hb2.mono hb1.size); have d0 : w2.cell? ⟨g, 0, none⟩ = some (.int .i64 k) := (hb1.cell (p := ⟨g, 0, none⟩) hgl).trans d0; have d1 : w2.cell? ⟨g, 1, none⟩ = some (.bool calm) := (hb1.cell (p := ⟨g, 1, none⟩) hgl).trans d1; have d2 : w2.cell? ⟨g, 2, none⟩ = some v := (hb1.cell (p := ⟨g, 2, none⟩) hgl).trans d2; have hown := own_monoR2 hown (show w.heap.size ≤ w.heap.size from Nat.le_refl _); clear hb2; obtain ⟨q1, c1, rfl⟩ := rec_form hown))
  have HO := Lib.hid hown; have HB := Lib.hid hb1
  clear hown hb1 d0 d1 d2 hgl
  go_wp2
  go_ret
  refine ⟨_, _, rfl, ⟨HB.out.size, new_rowW w2 _ _ rfl, recs_below HO.out ((Below.refl _ _).alloc (Nat.le_refl _) _), fun e => ?_⟩, HB.out.alloc HB.out.size _⟩
  have := (recs_base HO.out e).2
  omega

set_option maxRecDepth 4000 in
set_option maxHeartbeats 2000000 in
theorem rcopy_any (w : World) (base g : Nat) (k : Int) (calm : Bool) (lv av : Value) (all : List Hd) (h : IsR w base g k calm lv av all) (hbase : base ≤ w.heap.size) :
    Calls Try.prog 20 #[.pointer (some ⟨g, 0, none⟩)] w fun e w' => ∃ go, e = .returned (.pointer (some ⟨go, 0, none⟩)) ∧ w.heap.size ≤ go ∧ IsR w' base go k calm lv av all ∧ Below w.heap.size w w' := by
  have hc := fun j => cell_of_row w g j _ _ _ h.row
  have hgl := block_lt h.row
  have H := Lib.hid h
  obtain ⟨lp, lc, elv⟩ := h.l.shape
  obtain ⟨ap, ac, eav⟩ := h.a.shape
  rw [List.length_map] at elv eav
  subst elv eav
  clear h
  go_enter Try.func20, Try.ntmps20
  go_wp2_with fail
  go_region
  all_goals
    go_wp2
    go_ret
    refine ⟨_, rfl, Nat.le_refl _, ?_, (Below.refl _ _).drew.alloc (Nat.le_refl _) _⟩
    have hb : Below w.heap.size w (w.drew.alloc (.cells #[.int .i64 k, .bool calm, .slice lp all.length lc, .slice ap all.length ac] 50 (0, 0))) := (Below.refl _ _).drew.alloc (Nat.le_refl _) _
    exact ⟨hbase, new_rowW _ _ _ rfl, H.out.l.below hb, H.out.a.below hb, fun i hi => by have h1 := H.out.lg i hi; exact ⟨h1.1, Nat.lt_of_lt_of_le h1.2.1 hb.size, by omega⟩, fun i hi => by have h1 := H.out.ag i hi; exact ⟨h1.1, Nat.lt_of_lt_of_le h1.2.1 hb.size, by omega⟩⟩

set_option maxRecDepth 4000 in
set_option maxHeartbeats 4000000 in
theorem nwaiting_any (w : World) (base g : Nat) (k : Int) (calm : Bool) (v : Value) (all : List Hd) (h : IsN w base g k calm v all) (hk : 0 < k) (hall : all.length ≤ 10000) :
    Calls Try.prog 22 #[.pointer (some ⟨g, 0, none⟩)] w fun e w' => ∃ r, e = .returned r ∧ w'.ownsRow w.heap.size 35 15 r all.length (encL Lt.cells (all.map (·.l))) ∧ Below w.heap.size w w' := by
  have HLEN := Lib.hid (nlen_any w base g k calm v all h hk)
  have H := Lib.hid h
  obtain ⟨m, hm⟩ : ∃ m, all.length = m := ⟨_, rfl⟩
  have HM := Lib.hid hm
  have hown := h.2.2.1
  rw [hm] at hown hall
  obtain ⟨qv, cv0, rfl⟩ := rec_form hown
  rw [hm] at HLEN
  clear hown hm h
  have HLS := Lib.hid (LS.of_own H.out.2.2.1 Hd.cells_length (by decide))
  go_enter Try.func22, Try.ntmps22
  go_wp2_with (go_at_call 14; refine HLEN.out.mono ?_; rintro e w' ⟨rfl, rfl⟩)
  go_loopw [3, 7] (fun ov i wr => ∃ j : Nat, j ≤ m ∧ i = .int .i64 j ∧ wr.ownsRow w.heap.size 35 15 ov ((all.take j).map (·.l)).length (encL Lt.cells ((all.take j).map (·.l))) ∧ Below w.heap.size w wr) (fun _ i _ => m - (intOf i).toNat)
  case atStart => exact ⟨0, Nat.zero_le _, rfl, World.ownsRow_nil _ _ _ _, Below.refl _ _⟩
  case round =>
    obtain ⟨j, hj, rfl, hown, hbw⟩ := hrel
    have HBW := Lib.hid hbw
    by_cases hlt : j < m
    · obtain ⟨y, hy⟩ : ∃ x, all[j]? = some x := ⟨_, List.getElem?_eq_getElem (by have := HM.out; omega)⟩
      obtain ⟨bb, o, rfl, hbl, hr⟩ := (HLS.out.below hbw).at hy
      have HT : Hid ((all.take (j + 1)).map (·.l) = (all.take j).map (·.l) ++ [y.l]) := Lib.hid (by rw [List.take_add_one, hy]; simp)
      have HLL : Hid (((all.take j).map (·.l)).length ≤ 10000) := Lib.hid (by simp; have := HM.out; omega)
      have hrw := (hbw.block g (block_lt H.out.2.1)).trans H.out.2.1
      have hcg := fun j => cell_of_row wr g j _ _ _ hrw
      generalize hL : (all.take j).map (·.l) = L at *
      have HO := Lib.hid hown
      have c0 : wr.cell? ⟨bb, o + j * 16, none⟩ = some (.int .i64 y.l.f) := hr 0 _ rfl
      have c1 : wr.cell? ⟨bb, o + j * 16 + 1, none⟩ = some (.int .i64 y.l.t) := hr 1 _ rfl
      have c2 : wr.cell? ⟨bb, o + j * 16 + 2, none⟩ = some (.int .u64 y.l.n) := hr 2 _ rfl
      have c3 : wr.cell? ⟨bb, o + j * 16 + 3, none⟩ = some (.int .u64 y.l.a) := hr 3 _ rfl
      have c4 : wr.cell? ⟨bb, o + j * 16 + 4, none⟩ = some (.int .i64 y.l.k) := hr 4 _ rfl
      have c5 : wr.cell? ⟨bb, o + j * 16 + 5, none⟩ = some (.int .u64 y.l.tk) := hr 5 _ rfl
      have c6 : wr.cell? ⟨bb, o + j * 16 + 6, none⟩ = some (.int .i64 y.l.c) := hr 6 _ rfl
      have c7 : wr.cell? ⟨bb, o + j * 16 + 7, none⟩ = some (.int .i64 y.l.d) := hr 7 _ rfl
      have c8 : wr.cell? ⟨bb, o + j * 16 + 8, none⟩ = some (.int .i64 y.l.co) := hr 8 _ rfl
      have c9 : wr.cell? ⟨bb, o + j * 16 + 9, none⟩ = some (.int .i64 y.l.fl) := hr 9 _ rfl
      have c10 : wr.cell? ⟨bb, o + j * 16 + 10, none⟩ = some (.int .i64 y.l.dy) := hr 10 _ rfl
      have c11 : wr.cell? ⟨bb, o + j * 16 + 11, none⟩ = some (.int .i64 y.l.va) := hr 11 _ rfl
      have c12 : wr.cell? ⟨bb, o + j * 16 + 12, none⟩ = some (.int .i64 y.l.st) := hr 12 _ rfl
      have c13 : wr.cell? ⟨bb, o + j * 16 + 13, none⟩ = some (.int .i64 y.l.ho) := hr 13 _ rfl
      have c14 : wr.cell? ⟨bb, o + j * 16 + 14, none⟩ = some (.int .u64 y.l.nx) := hr 14 _ rfl
      have c15 : wr.cell? ⟨bb, o + j * 16 + 15, none⟩ = some (.int .i64 y.age) := hr 15 _ rfl
      have HOA := Lib.hid (recs_below hown ((Below.refl wr.heap.size wr).alloc (Nat.le_refl _) (.cells #[.int .i64 y.l.f, .int .i64 y.l.t, .int .u64 y.l.n, .int .u64 y.l.a, .int .i64 y.l.k, .int .u64 y.l.tk, .int .i64 y.l.c, .int .i64 y.l.d, .int .i64 y.l.co, .int .i64 y.l.fl, .int .i64 y.l.dy, .int .i64 y.l.va, .int .i64 y.l.st, .int .i64 y.l.ho, .int .u64 y.l.nx] 35 (0, 0))))
      have HNW := Lib.hid (new_rowW wr (.cells #[.int .i64 y.l.f, .int .i64 y.l.t, .int .u64 y.l.n, .int .u64 y.l.a, .int .i64 y.l.k, .int .u64 y.l.tk, .int .i64 y.l.c, .int .i64 y.l.d, .int .i64 y.l.co, .int .i64 y.l.fl, .int .i64 y.l.dy, .int .i64 y.l.va, .int .i64 y.l.st, .int .i64 y.l.ho, .int .u64 y.l.nx] 35 (0, 0)) _ rfl)
      have HBA := Lib.hid (hbw.alloc hbw.size (.cells #[.int .i64 y.l.f, .int .i64 y.l.t, .int .u64 y.l.n, .int .u64 y.l.a, .int .i64 y.l.k, .int .u64 y.l.tk, .int .i64 y.l.c, .int .i64 y.l.d, .int .i64 y.l.co, .int .i64 y.l.fl, .int .i64 y.l.dy, .int .i64 y.l.va, .int .i64 y.l.st, .int .i64 y.l.ho, .int .u64 y.l.nx] 35 (0, 0)))
      clear hy hr hbw hown hL hrw
      go_wp2_with (at_builtin; refine wpList_append_recs elemLt rfl _ _ rfl w.heap.size _ L.length L rfl HOA.out _ [y.l] rfl (row_one (x := y.l) HNW.out rfl Lt.cells_length (by decide)) (by have := HLL.out; show L.length + 1 ≤ _; omega) HBA.out.size ?_; intro vn wn hown hg hnn hat; have HX := Lib.hid hown; have HB := Lib.hid (HBA.out.grown hg HBA.out.size (fun b hb => (recs_base HOA.out hb).1)); clear hown hg hnn hat)
      have HY : Hid (wn.ownsRow w.heap.size 35 15 vn ((all.take (j + 1)).map (·.l)).length (encL Lt.cells ((all.take (j + 1)).map (·.l)))) := Lib.hid (by rw [HT.out, List.length_append]; exact HX.out)
      clear hcg c0 c1 c2 c3 c4 c5 c6 c7 c8 c9 c10 c11 c12 c13 c14 c15
      go_wp2
      go_roundw
      case rel => exact ⟨j + 1, by omega, by go_num, HY.out, HB.out⟩
      case measure => simp [intOf]; omega
    · obtain rfl : j = m := by omega
      rw [List.take_of_length_le (by have := HM.out; omega)] at hown
      rw [List.length_map] at hown
      have HO := Lib.hid hown
      clear hown hbw
      go_wp2
      go_ret
      exact ⟨_, rfl, HO.out, HBW.out⟩
end Go.Proofs.Ytihilifpadpkbaa
