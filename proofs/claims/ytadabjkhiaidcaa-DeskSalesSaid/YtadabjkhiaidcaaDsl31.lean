/- Contracts of package desk: row, taxed, goes. Contracts of package desk: taxes, values, all. -/
import Derived.Test.YtadabjkhiaidcaaDsl27
import Derived.Test.YtadabjkhiaidcaaDsl30

section
set_option linter.unusedVariables false
set_option linter.unusedSimpArgs false
namespace Go.Proofs.Ytadabjkhiaidcaa
open Go.ChangeShapes Go.WideShapes Go.ChangeAt Go.RowKit Go.Deep

theorem Dk.rowB_bad {l : List Cpn} {most : Int} {y : Cpn} (hy : y ∈ l) (hs : Dk.soldB y = false) : Dk.rowB l most = false := by
  unfold Dk.rowB
  cases h : l.all Dk.soldB
  · rfl
  · rw [List.all_eq_true] at h
    rw [h y hy] at hs; cases hs
theorem Dk.drop_at {α : Type} {l : List α} {k : Nat} {y : α} (h : l[k]? = some y) : l.drop k = y :: l.drop (k + 1) := by
  obtain ⟨hk, he⟩ := List.getElem?_eq_some_iff.1 h
  rw [List.drop_eq_getElem_cons hk, he]
theorem ret_pairD {v : Value} {a b : Bool} (h : a = b) : Ending.returned (.tuple #[v, .bool a]) = .returned (.tuple #[v, .bool b]) := by rw [h]
attribute [local go_sem ↓] Cp_execLoad Cp_execStore Tx_execLoad Tx_execStore

attribute [local go_sem] Cp_load Cp_store Tx_load Tx_store loL_drew okL_drew there_sc World.there_drew

attribute [local irreducible] Dk.soldB Dk.rowB

set_option maxRecDepth 4000 in
set_option maxHeartbeats 4000000 in
theorem drow_any (l : List Cpn) (p : Option Addr) (n cap : Nat) (most : Int) (w : World) (hl : LS Cpn.cells 6 w (.slice p n cap) l) (hln : n ≤ 1000) : Calls Try.prog 21 #[.slice p n cap, .int .i64 most] w fun e w' => ∃ v, e = .returned (.tuple #[v, .bool (Dk.rowB l most)]) ∧ (Dk.rowB l most = true → w'.ownsRow w.heap.size 37 6 v l.length (encL Cpn.cells (l.map Dk.soldC))) ∧ Below w.heap.size w w' := by
  have HML := Lib.hid hln
  clear hln
  have HLS := Lib.hid hl
  have HNL := Lib.hid hl.length.1
  have hn : n ≤ 9223372036854775807 := by have h1 := hl.length; unfold maxLen at h1; omega
  clear hl
  have HSO := Lib.hid (fun y W => dsold_any y W)
  obtain ⟨R, hR⟩ : ∃ R, Dk.rowB l most = R := ⟨_, rfl⟩
  rw [hR]
  have HRV := Lib.hid hR
  clear hR
  go_enter Try.func21, Try.ntmps21
  go_wp2_with fail
  go_loopw [4, 12] (fun o i wr => ∃ (k : Nat) (q : Option Addr) (z : Nat), k ≤ n ∧ i = .int .i64 k ∧ o = .slice q k z ∧ wr.ownsRow w.heap.size 37 6 (.slice q k z) k (encL Cpn.cells ((l.take k).map Dk.soldC)) ∧ (l.take k).all Dk.soldB = true ∧ Below w.heap.size w wr) (fun _ i _ => n - (intOf i).toNat)
  case atStart => exact ⟨0, none, 0, Nat.zero_le _, rfl, rfl, World.ownsRow_nil _ _ _ _, rfl, Below.refl _ _⟩
  case round =>
    obtain ⟨k, q, z, hk, rfl, rfl, ho, hall, hb⟩ := hrel
    have HB := Lib.hid hb; have HO := Lib.hid ho; have HALL := Lib.hid hall
    clear hb ho hall
    by_cases hlt : k < n
    · obtain ⟨y, hy⟩ : ∃ y, l[k]? = some y := ⟨_, List.getElem?_eq_getElem (by have := HNL.out; omega)⟩
      have HY := Lib.hid hy
      obtain ⟨eb, ef, hp, -, hr⟩ := (HLS.out.below HB.out).at hy
      subst hp
      obtain ⟨g1, g2⟩ := loL_of hr (Cpn.cells_length y)
      have g3 : y.cells = [.int .i64 y.fl, .int .i64 y.dy, .int .i64 y.va, .int .i64 y.st, .int .i64 y.ho, .int .u64 y.nx] := rfl
      rw [g3] at g1
      clear g3 hr hy
      have tc := there_newT (w := wr) (zs := [.int .i64 0, .int .i64 0, .int .i64 0, .int .i64 0, .int .i64 0, .int .u64 0]) (e := 37) (n := 6) rfl
      have c6n : ([.int .i64 y.fl, .int .i64 y.dy, .int .i64 y.va, .int .i64 y.st, .int .i64 y.ho, .int .u64 y.nx] : List Value).length = 6 := rfl
      have c6c : ([.int .i64 y.fl, .int .i64 y.dy, .int .i64 y.va, .int .i64 y.st, .int .i64 y.ho, .int .u64 y.nx] : List Value).all (·.oneCell') = true := rfl
      go_upto_region 4 with fail
      have HP := Lib.hid (putRec (W := wr) (e := 37) (zs := [.int .i64 0, .int .i64 0, .int .i64 0, .int .i64 0, .int .i64 0, .int .u64 0]) (cs := [.int .i64 y.fl, .int .i64 y.dy, .int .i64 y.va, .int .i64 y.st, .int .i64 y.ho, .int .u64 y.nx]) rfl)
      have HB := Lib.hid (HB.out.trans (HP.out.2.mono HB.out.size))
      have HO := Lib.hid (recs_below HO.out HP.out.2)
      have HRC := Lib.hid HP.out.1
      clear HP tc c6n c6c g1 g2
      generalize (wr.alloc (.cells #[.int .i64 0, .int .i64 0, .int .i64 0, .int .i64 0, .int .i64 0, .int .u64 0] 37 (0, 0))).setCells wr.heap.size 0 [.int .i64 y.fl, .int .i64 y.dy, .int .i64 y.va, .int .i64 y.st, .int .i64 y.ho, .int .u64 y.nx] = w4 at *
      generalize wr.heap.size = gc at *
      obtain ⟨f1, f2⟩ := row_loT 6 HRC.out rfl rfl
      go_wp2_with fail
      clear f1 f2
      refine (HSO.out y w4).mono ?_
      rintro e w5 ⟨rfl, hbn⟩
      have HB := Lib.hid (HB.out.trans (hbn.mono HB.out.size))
      have HO := Lib.hid (recs_below HO.out hbn)
      clear hbn HRC
      have tc := there_newT (w := w5) (zs := [.int .i64 0, .int .i64 0, .int .i64 0, .int .i64 0, .int .i64 0, .int .u64 0]) (e := 37) (n := 6) rfl
      have c6n : ([.int .i64 y.fl, .int .i64 y.dy, .int .i64 y.va, .int .i64 1, .int .i64 0, .int .u64 0] : List Value).length = 6 := rfl
      have c6c : ([.int .i64 y.fl, .int .i64 y.dy, .int .i64 y.va, .int .i64 1, .int .i64 0, .int .u64 0] : List Value).all (·.oneCell') = true := rfl
      go_upto_region 5 with fail
      have HP := Lib.hid (putRec (W := w5) (e := 37) (zs := [.int .i64 0, .int .i64 0, .int .i64 0, .int .i64 0, .int .i64 0, .int .u64 0]) (cs := [.int .i64 y.fl, .int .i64 y.dy, .int .i64 y.va, .int .i64 1, .int .i64 0, .int .u64 0]) rfl)
      have HB := Lib.hid (HB.out.trans (HP.out.2.mono HB.out.size))
      have HO := Lib.hid (recs_below HO.out HP.out.2)
      have HRD := Lib.hid HP.out.1
      clear HP tc c6n c6c
      generalize (w5.alloc (.cells #[.int .i64 0, .int .i64 0, .int .i64 0, .int .i64 0, .int .i64 0, .int .u64 0] 37 (0, 0))).setCells w5.heap.size 0 [.int .i64 y.fl, .int .i64 y.dy, .int .i64 y.va, .int .i64 1, .int .i64 0, .int .u64 0] = w6 at *
      generalize w5.heap.size = gd at *
      obtain ⟨s, hs⟩ : ∃ s, Dk.soldB y = s := ⟨_, rfl⟩
      rw [hs]
      have HS := Lib.hid hs
      clear hs
      cases s
      · have HR0 : Hid (R = false) := Lib.hid (by rw [← HRV.out]; exact Dk.rowB_bad (List.mem_of_getElem? HY.out) HS.out)
        obtain rfl : R = false := HR0.out
        go_wp2
        go_ret2
        first | exact ⟨⟨_, rfl⟩, HB.out⟩ | exact HB.out | exact ⟨_, rfl, (fun h => by cases h), HB.out⟩
      · obtain ⟨g1, g2⟩ := row_loT 6 HRD.out rfl rfl
        have HBN := Lib.hid ((Below.refl w6.heap.size w6).alloc (Nat.le_refl _) (.cells #[.int .i64 y.fl, .int .i64 y.dy, .int .i64 y.va, .int .i64 1, .int .i64 0, .int .u64 0] 37 (0, 0)))
        have HO1 := Lib.hid (recs_below HO.out HBN.out)
        have HL1 : Hid (LS Cpn.cells 6 (w6.alloc (.cells #[.int .i64 y.fl, .int .i64 y.dy, .int .i64 y.va, .int .i64 1, .int .i64 0, .int .u64 0] 37 (0, 0))) (.slice (some ⟨w6.heap.size, 0, none⟩) 1 1) [Dk.soldC y]) := Lib.hid (row_one (enc := Cpn.cells) (x := Dk.soldC y) (new_rowW _ _ _ rfl) rfl Cpn.cells_length (by decide))
        have HB1 := Lib.hid (HB.out.trans (HBN.out.mono HB.out.size))
        go_wp2_with (at_builtin; (refine wpList_append_recs elemCp rfl _ _ rfl w.heap.size _ k _ rfl HO1.out _ _ rfl HL1.out (by have := HML.out; simp; omega) HB1.out.size ?_); intro v1 w9 hown1 hg1 hn1 hat1; (obtain ⟨q', z', hv1⟩ := rec_formT hown1); subst hv1; (have HB2 := Lib.hid (HB1.out.trans ((Below.refl _ _).grown hg1 HB1.out.size (fun b hb => (recs_base HO1.out hb).1)))); (have HO2 := Lib.hid hown1); clear hown1 hg1 hn1 hat1)
        go_roundw
        case rel =>
          refine ⟨k + 1, q', z', by omega, by go_num, rfl, ?_, ?_, HB2.out⟩
          · rw [Tkt.take_snocT HY.out, List.map_append]; exact HO2.out
          · rw [Tkt.take_snocT HY.out, List.all_append, HALL.out]; simp [HS.out]
        case measure => simp [intOf]; omega
    · obtain rfl : k = n := by omega
      have hlen : l.take k = l := List.take_of_length_le (by have := HNL.out; omega)
      rw [hlen] at HO HALL
      clear hlen
      have HRW : Hid (R = (decide (1 ≤ (k : Int)) && decide ((k : Int) ≤ most))) := Lib.hid (by rw [← HRV.out]; unfold Dk.rowB; rw [HALL.out, ← HNL.out]; rfl)
      by_cases h1 : 1 ≤ (k : Int)
      · by_cases h2 : (k : Int) ≤ most
        · obtain rfl : R = true := by rw [HRW.out]; rw [decide_eq_true h1, decide_eq_true h2]; rfl
          go_wp2
          go_ret2
          first | exact ⟨⟨_, rfl⟩, HB.out⟩ | exact ⟨_, rfl, HO.out, HB.out⟩ | exact ⟨_, rfl, by rw [← HNL.out]; exact HO.out, HB.out⟩
        · obtain rfl : R = false := by rw [HRW.out]; rw [decide_eq_false h2, Bool.and_false]
          go_wp2
          go_ret2
          first | exact ⟨⟨_, rfl⟩, HB.out⟩ | exact ⟨_, rfl, HO.out, HB.out⟩ | exact ⟨_, rfl, by rw [← HNL.out]; exact HO.out, HB.out⟩
      · obtain rfl : R = false := by rw [HRW.out]; rw [decide_eq_false h1, Bool.false_and]
        go_wp2
        go_ret2
        first | exact ⟨⟨_, rfl⟩, HB.out⟩ | exact ⟨_, rfl, HO.out, HB.out⟩ | exact ⟨_, rfl, by rw [← HNL.out]; exact HO.out, HB.out⟩


set_option maxRecDepth 4000 in
set_option maxHeartbeats 4000000 in
theorem dgoes_any (l : List Cpn) (p : Option Addr) (n cap : Nat) (d : Int) (w : World) (hl : LS Cpn.cells 6 w (.slice p n cap) l) : Calls Try.prog 26 #[.slice p n cap, .int .i64 d] w fun e w' => e = .returned (.bool (Dk.goesB l d)) ∧ Below w.heap.size w w' := by
  have HLS := Lib.hid hl
  have HNL := Lib.hid hl.length.1
  have hn : n ≤ 9223372036854775807 := by have h1 := hl.length; unfold maxLen at h1; omega
  clear hl
  obtain ⟨R, hR⟩ : ∃ R, Dk.goesB l d = R := ⟨_, rfl⟩
  rw [hR]
  have HRV := Lib.hid hR
  clear hR
  go_enter Try.func26, Try.ntmps26
  go_wp2_with fail
  go_loopw [1, 9] (fun dv i wr => ∃ (k : Nat) (D : Int), k ≤ n ∧ i = .int .i64 k ∧ dv = .int .i64 D ∧ R = Dk.goesB (l.drop k) D ∧ Below w.heap.size w wr) (fun _ i _ => n - (intOf i).toNat)
  case atStart => exact ⟨0, d, Nat.zero_le _, rfl, rfl, HRV.out.symm, Below.refl _ _⟩
  case round =>
    obtain ⟨k, D, hk, rfl, rfl, hg, hb⟩ := hrel
    have HB := Lib.hid hb; have HG := Lib.hid hg
    clear hb hg
    by_cases hlt : k < n
    · obtain ⟨y, hy⟩ : ∃ y, l[k]? = some y := ⟨_, List.getElem?_eq_getElem (by have := HNL.out; omega)⟩
      have HY := Lib.hid hy
      obtain ⟨eb, ef, hp, -, hr⟩ := (HLS.out.below HB.out).at hy
      subst hp
      obtain ⟨g1, g2⟩ := loL_of hr (Cpn.cells_length y)
      have g3 : y.cells = [.int .i64 y.fl, .int .i64 y.dy, .int .i64 y.va, .int .i64 y.st, .int .i64 y.ho, .int .u64 y.nx] := rfl
      rw [g3] at g1
      clear g3 hr hy
      have tc := there_newT (w := wr) (zs := [.int .i64 0, .int .i64 0, .int .i64 0, .int .i64 0, .int .i64 0, .int .u64 0]) (e := 37) (n := 6) rfl
      have c6n : ([.int .i64 y.fl, .int .i64 y.dy, .int .i64 y.va, .int .i64 y.st, .int .i64 y.ho, .int .u64 y.nx] : List Value).length = 6 := rfl
      have c6c : ([.int .i64 y.fl, .int .i64 y.dy, .int .i64 y.va, .int .i64 y.st, .int .i64 y.ho, .int .u64 y.nx] : List Value).all (·.oneCell') = true := rfl
      go_upto_region 4 with fail
      have HP := Lib.hid (putRec (W := wr) (e := 37) (zs := [.int .i64 0, .int .i64 0, .int .i64 0, .int .i64 0, .int .i64 0, .int .u64 0]) (cs := [.int .i64 y.fl, .int .i64 y.dy, .int .i64 y.va, .int .i64 y.st, .int .i64 y.ho, .int .u64 y.nx]) rfl)
      have HB := Lib.hid (HB.out.trans (HP.out.2.mono HB.out.size))
      have HRC := Lib.hid HP.out.1
      clear HP tc c6n c6c g1 g2
      generalize (wr.alloc (.cells #[.int .i64 0, .int .i64 0, .int .i64 0, .int .i64 0, .int .i64 0, .int .u64 0] 37 (0, 0))).setCells wr.heap.size 0 [.int .i64 y.fl, .int .i64 y.dy, .int .i64 y.va, .int .i64 y.st, .int .i64 y.ho, .int .u64 y.nx] = w4 at *
      generalize wr.heap.size = gc at *
      have kc := fun j => cell_of_row w4 gc j _ _ _ HRC.out
      have HG2 : Hid (R = (decide (D ≤ y.dy) && Dk.goesB (l.drop (k + 1)) y.dy)) := Lib.hid (by rw [HG.out, Dk.drop_at HY.out]; rfl)
      by_cases hd : y.dy < D
      · obtain rfl : R = false := by rw [HG2.out, decide_eq_false (by omega)]; rfl
        go_wp2_with fail
        go_ret
        exact ⟨rfl, HB.out⟩
      · have HG3 : Hid (R = Dk.goesB (l.drop (k + 1)) y.dy) := Lib.hid (by rw [HG2.out, decide_eq_true (by omega)]; rfl)
        go_wp2_with fail
        go_roundw
        case rel => exact ⟨k + 1, y.dy, by omega, by go_num, rfl, HG3.out, HB.out⟩
        case measure => simp [intOf]; omega
    · obtain rfl : k = n := by omega
      obtain rfl : R = true := by rw [HG.out, List.drop_of_length_le (by have := HNL.out; omega)]; rfl
      go_wp2
      go_ret
      exact ⟨rfl, HB.out⟩


set_option maxRecDepth 4000 in
set_option maxHeartbeats 4000000 in
theorem dtaxed_any (l : List Txx) (p : Option Addr) (n cap : Nat) (w : World) (hl : LS Txx.cells 2 w (.slice p n cap) l) : Calls Try.prog 22 #[.slice p n cap] w fun e w' => e = .returned (.bool (Dk.taxedB l)) ∧ Below w.heap.size w w' := by
  have HLS := Lib.hid hl
  have HNL := Lib.hid hl.length.1
  have hn : n ≤ 9223372036854775807 := by have h1 := hl.length; unfold maxLen at h1; omega
  clear hl
  have HAM := Lib.hid (fun y W => damount_any y W)
  obtain ⟨R, hR⟩ : ∃ R, Dk.taxedB l = R := ⟨_, rfl⟩
  rw [hR]
  have HRV : Hid (R = (Dk.taxB 0 l && decide ((n : Int) ≤ 4))) := Lib.hid (by rw [← hR]; unfold Dk.taxedB; rw [← HNL.out])
  clear hR
  go_enter Try.func22, Try.ntmps22
  go_wp2_with fail
  go_loopw [3, 8] (fun dv i wr => ∃ (k : Nat) (D : Int), k ≤ n ∧ i = .int .i64 k ∧ dv = .int .i64 D ∧ R = (Dk.taxB D (l.drop k) && decide ((n : Int) ≤ 4)) ∧ Below w.heap.size w wr) (fun _ i _ => n - (intOf i).toNat)
  case atStart => exact ⟨0, 0, Nat.zero_le _, rfl, rfl, HRV.out, Below.refl _ _⟩
  case round =>
    obtain ⟨k, D, hk, rfl, rfl, hg, hb⟩ := hrel
    have HB := Lib.hid hb; have HG := Lib.hid hg
    clear hb hg
    by_cases hlt : k < n
    · obtain ⟨y, hy⟩ : ∃ y, l[k]? = some y := ⟨_, List.getElem?_eq_getElem (by have := HNL.out; omega)⟩
      have HY := Lib.hid hy
      obtain ⟨eb, ef, hp, -, hr⟩ := (HLS.out.below HB.out).at hy
      subst hp
      obtain ⟨g1, g2⟩ := loL_of hr (Txx.cells_length y)
      have g3 : y.cells = [.int .i64 y.cd, .int .i64 y.am] := rfl
      rw [g3] at g1
      clear g3 hr hy
      have tc := there_newT (w := wr) (zs := [.int .i64 0, .int .i64 0]) (e := 56) (n := 2) rfl
      have c6n : ([.int .i64 y.cd, .int .i64 y.am] : List Value).length = 2 := rfl
      have c6c : ([.int .i64 y.cd, .int .i64 y.am] : List Value).all (·.oneCell') = true := rfl
      go_upto_region 5 with fail
      have HP := Lib.hid (putRec (W := wr) (e := 56) (zs := [.int .i64 0, .int .i64 0]) (cs := [.int .i64 y.cd, .int .i64 y.am]) rfl)
      have HB := Lib.hid (HB.out.trans (HP.out.2.mono HB.out.size))
      have HRC := Lib.hid HP.out.1
      clear HP tc c6n c6c g1 g2
      generalize (wr.alloc (.cells #[.int .i64 0, .int .i64 0] 56 (0, 0))).setCells wr.heap.size 0 [.int .i64 y.cd, .int .i64 y.am] = w4 at *
      generalize wr.heap.size = gc at *
      have kc := fun j => cell_of_row w4 gc j _ _ _ HRC.out
      obtain ⟨q, hq⟩ : ∃ q, Tkt.someB y.am = q := ⟨_, rfl⟩
      have HAY := Lib.hid (HAM.out y.am)
      rw [hq] at HAY
      have HG2 : Hid (R = (((decide (D < y.cd) && decide (y.cd ≤ 99) && q) && Dk.taxB y.cd (l.drop (k + 1))) && decide ((n : Int) ≤ 4))) := Lib.hid (by rw [HG.out, Dk.drop_at HY.out, ← hq]; rfl)
      clear hq
      by_cases h1 : y.cd ≤ D
      · obtain rfl : R = false := by rw [HG2.out, decide_eq_false (show ¬ D < y.cd by omega)]; simp
        go_wp2_with (go_at_call 51; refine (HAY.out _).mono ?_; rintro e wn ⟨rfl, rfl⟩)
        go_ret
        exact ⟨rfl, HB.out⟩
      · by_cases h2 : 99 < y.cd
        · obtain rfl : R = false := by rw [HG2.out, decide_eq_false (show ¬ y.cd ≤ 99 by omega)]; simp
          go_wp2_with (go_at_call 51; refine (HAY.out _).mono ?_; rintro e wn ⟨rfl, rfl⟩)
          go_ret
          exact ⟨rfl, HB.out⟩
        · have HT1 : Hid (decide (D < y.cd) = true ∧ decide (y.cd ≤ 99) = true) := Lib.hid ⟨decide_eq_true (by omega), decide_eq_true (by omega)⟩
          cases q
          · obtain rfl : R = false := by rw [HG2.out, Bool.and_false]; rfl
            go_wp2_with (go_at_call 51; refine (HAY.out _).mono ?_; rintro e wn ⟨rfl, rfl⟩)
            go_ret
            exact ⟨rfl, HB.out⟩
          · have HG3 : Hid (R = (Dk.taxB y.cd (l.drop (k + 1)) && decide ((n : Int) ≤ 4))) := Lib.hid (by rw [HG2.out, HT1.out.1, HT1.out.2]; rfl)
            go_wp2_with (go_at_call 51; refine (HAY.out _).mono ?_; rintro e wn ⟨rfl, rfl⟩)
            go_roundw
            case rel => exact ⟨k + 1, y.cd, by omega, by go_num, rfl, HG3.out, HB.out⟩
            case measure => simp [intOf]; omega
    · obtain rfl : k = n := by omega
      have HGE : Hid (R = decide ((k : Int) ≤ 4)) := Lib.hid (by rw [HG.out, List.drop_of_length_le (by have := HNL.out; omega)]; rfl)
      go_wp2
      go_ret
      exact ⟨ret_bool HGE.out.symm, HB.out⟩

end Go.Proofs.Ytadabjkhiaidcaa
end

section
set_option linter.unusedVariables false
set_option linter.unusedSimpArgs false
namespace Go.Proofs.Ytadabjkhiaidcaa
open Go.ChangeShapes Go.WideShapes Go.ChangeAt Go.RowKit Go.Deep

namespace Dk
/-- what coupons of some statuses are worth -/
def valN (of : List Int) : List Cpn → Int
  | [] => 0
  | y :: r => (if of.contains y.st = true then y.va else 0) + valN of r
def allN : List Int → Int
  | [] => 0
  | y :: r => y + allN r
theorem valN_append (of : List Int) : ∀ a b : List Cpn, valN of (a ++ b) = valN of a + valN of b
  | [], b => by simp [valN]
  | y :: a, b => by simp only [List.cons_append, valN, valN_append of a b]; omega
theorem valN_snoc (of : List Int) {cs : List Cpn} {k : Nat} {y : Cpn} (h : cs[k]? = some y) : valN of (cs.take (k + 1)) = valN of (cs.take k) + if of.contains y.st = true then y.va else 0 := by
  rw [Tkt.take_snocT h, valN_append]
  simp [valN]
theorem valN_bound (of : List Int) : ∀ cs : List Cpn, (∀ y ∈ cs, 0 ≤ y.va ∧ y.va ≤ 1000000000000) → 0 ≤ valN of cs ∧ valN of cs ≤ 1000000000000 * cs.length
  | [], _ => by simp [valN]
  | y :: r, h => by
    have h1 := h y (by simp)
    have h2 := valN_bound of r (fun z hz => h z (by simp [hz]))
    simp only [valN, List.length_cons]
    split <;> omega
theorem allN_append : ∀ a b : List Int, allN (a ++ b) = allN a + allN b
  | [], b => by simp [allN]
  | y :: a, b => by simp only [List.cons_append, allN, allN_append a b]; omega
theorem allN_snoc {cs : List Int} {k : Nat} {y : Int} (h : cs[k]? = some y) : allN (cs.take (k + 1)) = allN (cs.take k) + y := by
  rw [Tkt.take_snocT h, allN_append]
  simp [allN]
theorem allN_bound : ∀ cs : List Int, (∀ y ∈ cs, -10000000000000 ≤ y ∧ y ≤ 10000000000000) → -10000000000000 * (cs.length : Int) ≤ allN cs ∧ allN cs ≤ 10000000000000 * cs.length
  | [], _ => by simp [allN]
  | y :: r, h => by
    have h1 := h y (by simp)
    have h2 := allN_bound r (fun z hz => h z (by simp [hz]))
    simp only [allN, List.length_cons]
    omega
end Dk
def i64C (n : Int) : List Value := [.int .i64 n]
attribute [local go_sem ↓] Tk_execLoad Tk_execStore Cp_execLoad Cp_execStore Tx_execLoad Tx_execStore

attribute [local go_sem] Tk_load Tk_store Cp_load Cp_store Tx_load Tx_store loL_drew okL_drew there_sc World.there_drew

set_option maxRecDepth 4000 in
set_option maxHeartbeats 4000000 in
theorem dtaxes_any (t : Tk) (c x h : Sl) (w : World) (hl : LS Txx.cells 2 w (.slice x.p x.n x.c) t.ts) (hb : ∀ y ∈ t.ts, 0 ≤ y.am ∧ y.am ≤ 1000000000000) (hk : t.ts.length ≤ 1000) : Calls Try.prog 29 #[.agg #[.int .u64 t.num, .string t.loc, .int .i64 t.iss, .slice c.p c.n c.c, .slice x.p x.n x.c, .int .u64 t.prev, .int .u64 t.org, .int .u64 t.fst, .int .i64 t.vou, .int .i64 t.posts, .slice h.p h.n h.c]] w fun e w' => e = .returned (.int .i64 (Tkt.taxI t.ts)) ∧ Below w.heap.size w w' := by
  obtain ⟨p, n, cap⟩ := x
  simp only at *
  obtain ⟨l, hl0⟩ : ∃ l, t.ts = l := ⟨_, rfl⟩
  rw [hl0] at hl hb hk
  rw [hl0]
  clear hl0
  have HK : Hid (n ≤ 1000) := Lib.hid (by have := hl.length.1; omega)
  have HBD := Lib.hid hb
  clear hb hk
  have HLS := Lib.hid hl
  have HNL := Lib.hid hl.length.1
  have hn : n ≤ 9223372036854775807 := by have h1 := hl.length; unfold maxLen at h1; omega
  clear hl
  have HB0 := Lib.hid ((Below.refl w.heap.size w).alloc (Nat.le_refl _) (.cells #[.int .u64 t.num, .string t.loc, .int .i64 t.iss, .slice c.p c.n c.c, .slice p n cap, .int .u64 t.prev, .int .u64 t.org, .int .u64 t.fst, .int .i64 t.vou, .int .i64 t.posts, .slice h.p h.n h.c] 45 (0, 0)))
  have HR0 := Lib.hid (new_rowW w (.cells #[.int .u64 t.num, .string t.loc, .int .i64 t.iss, .slice c.p c.n c.c, .slice p n cap, .int .u64 t.prev, .int .u64 t.org, .int .u64 t.fst, .int .i64 t.vou, .int .i64 t.posts, .slice h.p h.n h.c] 45 (0, 0)) _ rfl)
  have hcs := fun j => cell_of_row _ w.heap.size j _ _ _ HR0.out
  obtain ⟨R, hR⟩ : ∃ R, Tkt.taxI l = R := ⟨_, rfl⟩
  rw [hR]
  have HRV := Lib.hid hR
  clear hR
  go_enter Try.func29, Try.ntmps29
  go_wp2_with fail
  clear hcs
  go_loopw [2, 8] (fun sm i wr => ∃ k : Nat, k ≤ n ∧ i = .int .i64 k ∧ sm = .int .i64 (Tkt.taxI (l.take k)) ∧ Below w.heap.size w wr) (fun _ i _ => n - (intOf i).toNat)
  case atStart => exact ⟨0, Nat.zero_le _, rfl, rfl, HB0.out⟩
  case round =>
    obtain ⟨k, hk, rfl, rfl, hb⟩ := hrel
    have HB := Lib.hid hb
    clear hb HB0 HR0
    by_cases hlt : k < n
    · generalize hS : Tkt.taxI (l.take k) = S at *
      obtain ⟨y, hy⟩ : ∃ y, l[k]? = some y := ⟨_, List.getElem?_eq_getElem (by have := HNL.out; omega)⟩
      have HY := Lib.hid hy
      obtain ⟨eb, ef, hp, -, hr⟩ := (HLS.out.below HB.out).at hy
      subst hp
      obtain ⟨g1, g2⟩ := loL_of hr (Txx.cells_length y)
      have g3 : y.cells = [.int .i64 y.cd, .int .i64 y.am] := rfl
      rw [g3] at g1
      clear g3 hr hy
      have tc := there_newT (w := wr) (zs := [.int .i64 0, .int .i64 0]) (e := 56) (n := 2) rfl
      have c6n : ([.int .i64 y.cd, .int .i64 y.am] : List Value).length = 2 := rfl
      have c6c : ([.int .i64 y.cd, .int .i64 y.am] : List Value).all (·.oneCell') = true := rfl
      go_upto_region 4 with fail
      have HP := Lib.hid (putRec (W := wr) (e := 56) (zs := [.int .i64 0, .int .i64 0]) (cs := [.int .i64 y.cd, .int .i64 y.am]) rfl)
      have HB := Lib.hid (HB.out.trans (HP.out.2.mono HB.out.size))
      have HRC := Lib.hid HP.out.1
      clear HP tc c6n c6c g1 g2
      generalize (wr.alloc (.cells #[.int .i64 0, .int .i64 0] 56 (0, 0))).setCells wr.heap.size 0 [.int .i64 y.cd, .int .i64 y.am] = w4 at *
      generalize wr.heap.size = gc at *
      have kc := fun j => cell_of_row w4 gc j _ _ _ HRC.out
      have hbs := Tkt.taxI_bound (l.take k) (fun y hy => HBD.out y (List.mem_of_mem_take hy))
      rw [hS, List.length_take] at hbs
      have hS0 : 0 ≤ S := by omega
      have hS1 : S ≤ 1000000000000000 := by have := HK.out; omega
      have hv := HBD.out y (List.mem_of_getElem? HY.out)
      have hv0 := hv.1
      have hv1 := hv.2
      have HSE := Lib.hid hS
      clear hv hbs hS
      go_wp2_with fail
      go_roundw
      case rel => exact ⟨k + 1, by omega, by go_num, by rw [Tkt.taxI_snoc HY.out, HSE.out], HB.out⟩
      case measure => simp [intOf]; omega
    · obtain rfl : k = n := by omega
      have HGE : Hid (Tkt.taxI (l.take k) = R) := Lib.hid (by rw [← HRV.out, List.take_of_length_le (by have := HNL.out; omega)])
      generalize Tkt.taxI (l.take k) = S at *
      go_wp2
      go_ret
      exact ⟨ret_intT HGE.out, HB.out⟩


set_option maxRecDepth 4000 in
set_option maxHeartbeats 4000000 in
theorem dvalues_any (t : Tk) (c x h : Sl) (of : List Int) (po : Option Addr) (no co : Nat) (w : World) (hl : LS Cpn.cells 6 w (.slice c.p c.n c.c) t.cs) (hb : ∀ y ∈ t.cs, 0 ≤ y.va ∧ y.va ≤ 1000000000000) (hk : t.cs.length ≤ 1000) (ho : LS stC 1 w (.slice po no co) of) : Calls Try.prog 28 #[.agg #[.int .u64 t.num, .string t.loc, .int .i64 t.iss, .slice c.p c.n c.c, .slice x.p x.n x.c, .int .u64 t.prev, .int .u64 t.org, .int .u64 t.fst, .int .i64 t.vou, .int .i64 t.posts, .slice h.p h.n h.c], .slice po no co] w fun e w' => e = .returned (.int .i64 (Dk.valN of t.cs)) ∧ Below w.heap.size w w' := by
  obtain ⟨p, n, cap⟩ := c
  simp only at *
  obtain ⟨l, hl0⟩ : ∃ l, t.cs = l := ⟨_, rfl⟩
  rw [hl0] at hl hb hk
  rw [hl0]
  clear hl0
  have HK : Hid (n ≤ 1000) := Lib.hid (by have := hl.length.1; omega)
  have HBD := Lib.hid hb
  clear hb hk
  have HLS := Lib.hid hl
  have HNL := Lib.hid hl.length.1
  have hn : n ≤ 9223372036854775807 := by have h1 := hl.length; unfold maxLen at h1; omega
  clear hl
  have HOF := Lib.hid ho
  clear ho
  have HB0 := Lib.hid ((Below.refl w.heap.size w).alloc (Nat.le_refl _) (.cells #[.int .u64 t.num, .string t.loc, .int .i64 t.iss, .slice p n cap, .slice x.p x.n x.c, .int .u64 t.prev, .int .u64 t.org, .int .u64 t.fst, .int .i64 t.vou, .int .i64 t.posts, .slice h.p h.n h.c] 45 (0, 0)))
  have HR0 := Lib.hid (new_rowW w (.cells #[.int .u64 t.num, .string t.loc, .int .i64 t.iss, .slice p n cap, .slice x.p x.n x.c, .int .u64 t.prev, .int .u64 t.org, .int .u64 t.fst, .int .i64 t.vou, .int .i64 t.posts, .slice h.p h.n h.c] 45 (0, 0)) _ rfl)
  have hcs := fun j => cell_of_row _ w.heap.size j _ _ _ HR0.out
  obtain ⟨R, hR⟩ : ∃ R, Dk.valN of l = R := ⟨_, rfl⟩
  rw [hR]
  have HRV := Lib.hid hR
  clear hR
  go_enter Try.func28, Try.ntmps28
  go_wp2_with fail
  clear hcs
  go_loopw [4, 10] (fun sm i wr => ∃ k : Nat, k ≤ n ∧ i = .int .i64 k ∧ sm = .int .i64 (Dk.valN of (l.take k)) ∧ Below w.heap.size w wr) (fun _ i _ => n - (intOf i).toNat)
  case atStart => exact ⟨0, Nat.zero_le _, rfl, rfl, HB0.out⟩
  case round =>
    obtain ⟨k, hk, rfl, rfl, hb⟩ := hrel
    have HB := Lib.hid hb
    clear hb HB0 HR0
    by_cases hlt : k < n
    · generalize hS : Dk.valN of (l.take k) = S at *
      obtain ⟨y, hy⟩ : ∃ y, l[k]? = some y := ⟨_, List.getElem?_eq_getElem (by have := HNL.out; omega)⟩
      have HY := Lib.hid hy
      obtain ⟨eb, ef, hp, -, hr⟩ := (HLS.out.below HB.out).at hy
      subst hp
      obtain ⟨g1, g2⟩ := loL_of hr (Cpn.cells_length y)
      have g3 : y.cells = [.int .i64 y.fl, .int .i64 y.dy, .int .i64 y.va, .int .i64 y.st, .int .i64 y.ho, .int .u64 y.nx] := rfl
      rw [g3] at g1
      clear g3 hr hy
      have tc := there_newT (w := wr) (zs := [.int .i64 0, .int .i64 0, .int .i64 0, .int .i64 0, .int .i64 0, .int .u64 0]) (e := 37) (n := 6) rfl
      have c6n : ([.int .i64 y.fl, .int .i64 y.dy, .int .i64 y.va, .int .i64 y.st, .int .i64 y.ho, .int .u64 y.nx] : List Value).length = 6 := rfl
      have c6c : ([.int .i64 y.fl, .int .i64 y.dy, .int .i64 y.va, .int .i64 y.st, .int .i64 y.ho, .int .u64 y.nx] : List Value).all (·.oneCell') = true := rfl
      go_upto_region 4 with fail
      have HP := Lib.hid (putRec (W := wr) (e := 37) (zs := [.int .i64 0, .int .i64 0, .int .i64 0, .int .i64 0, .int .i64 0, .int .u64 0]) (cs := [.int .i64 y.fl, .int .i64 y.dy, .int .i64 y.va, .int .i64 y.st, .int .i64 y.ho, .int .u64 y.nx]) rfl)
      have HB := Lib.hid (HB.out.trans (HP.out.2.mono HB.out.size))
      have HRC := Lib.hid HP.out.1
      clear HP tc c6n c6c g1 g2
      generalize (wr.alloc (.cells #[.int .i64 0, .int .i64 0, .int .i64 0, .int .i64 0, .int .i64 0, .int .u64 0] 37 (0, 0))).setCells wr.heap.size 0 [.int .i64 y.fl, .int .i64 y.dy, .int .i64 y.va, .int .i64 y.st, .int .i64 y.ho, .int .u64 y.nx] = w4 at *
      generalize wr.heap.size = gc at *
      have kc := fun j => cell_of_row w4 gc j _ _ _ HRC.out
      have hbs := Dk.valN_bound of (l.take k) (fun y hy => HBD.out y (List.mem_of_mem_take hy))
      rw [hS, List.length_take] at hbs
      have hS0 : 0 ≤ S := by omega
      have hS1 : S ≤ 1000000000000000 := by have := HK.out; omega
      have hv := HBD.out y (List.mem_of_getElem? HY.out)
      have hv0 := hv.1
      have hv1 := hv.2
      have HSE := Lib.hid hS
      clear hv hbs hS
      obtain ⟨q, hq⟩ : ∃ q, of.contains y.st = q := ⟨_, rfl⟩
      have HCT := Lib.hid (containsSt_any of y.st po no co w4 (HOF.out.below HB.out))
      rw [hq] at HCT
      have HQ := Lib.hid hq
      clear hq
      cases q
      · go_wp2_with (go_at_call 42; refine HCT.out.mono ?_; rintro e wn ⟨rfl, rfl⟩)
        go_roundw
        case rel => exact ⟨k + 1, by omega, by go_num, by rw [Dk.valN_snoc of HY.out, HSE.out, HQ.out]; simp, HB.out⟩
        case measure => simp [intOf]; omega
      · go_wp2_with (go_at_call 42; refine HCT.out.mono ?_; rintro e wn ⟨rfl, rfl⟩)
        go_roundw
        case rel => exact ⟨k + 1, by omega, by go_num, by rw [Dk.valN_snoc of HY.out, HSE.out, HQ.out]; simp, HB.out⟩
        case measure => simp [intOf]; omega
    · obtain rfl : k = n := by omega
      have HGE : Hid (Dk.valN of (l.take k) = R) := Lib.hid (by rw [← HRV.out, List.take_of_length_le (by have := HNL.out; omega)])
      generalize Dk.valN of (l.take k) = S at *
      go_wp2
      go_ret
      exact ⟨ret_intT HGE.out, HB.out⟩


set_option maxRecDepth 4000 in
set_option maxHeartbeats 4000000 in
theorem dall_any (l : List Int) (p : Option Addr) (n cap : Nat) (w : World) (hl : LS i64C 1 w (.slice p n cap) l) (hb : ∀ y ∈ l, -10000000000000 ≤ y ∧ y ≤ 10000000000000) (hk : n ≤ 5) : Calls Try.prog 30 #[.slice p n cap] w fun e w' => e = .returned (.int .i64 (Dk.allN l)) ∧ w = w' := by
  have HK := Lib.hid hk
  have HBD := Lib.hid hb
  clear hb hk
  have HLS := Lib.hid hl
  have HNL := Lib.hid hl.length.1
  have hn : n ≤ 9223372036854775807 := by have h1 := hl.length; unfold maxLen at h1; omega
  clear hl
  obtain ⟨R, hR⟩ : ∃ R, Dk.allN l = R := ⟨_, rfl⟩
  rw [hR]
  have HRV := Lib.hid hR
  clear hR
  go_enter Try.func30, Try.ntmps30
  go_wp2_with fail
  go_loop [2, 7] (fun sm i => ∃ k : Nat, k ≤ n ∧ i = .int .i64 k ∧ sm = .int .i64 (Dk.allN (l.take k))) (fun _ i => n - (intOf i).toNat)
  case atStart => exact ⟨0, Nat.zero_le _, rfl, rfl⟩
  case round =>
    obtain ⟨k, hk, rfl, rfl⟩ := hrel
    by_cases hlt : k < n
    · generalize hS : Dk.allN (l.take k) = S at *
      obtain ⟨y, hy⟩ : ∃ y, l[k]? = some y := ⟨_, List.getElem?_eq_getElem (by have := HNL.out; omega)⟩
      have HY := Lib.hid hy
      obtain ⟨eb, ef, hp, -, hr⟩ := HLS.out.at hy
      subst hp
      have hc : w.cell? ⟨eb, ef + k, none⟩ = some (.int .i64 y) := by have := hr 0 _ rfl; rwa [Nat.mul_one] at this
      clear hr hy
      have hbs := Dk.allN_bound (l.take k) (fun y hy => HBD.out y (List.mem_of_mem_take hy))
      rw [hS, List.length_take] at hbs
      have hS0 : -10000000000000000 ≤ S := by have := HK.out; omega
      have hS1 : S ≤ 10000000000000000 := by have := HK.out; omega
      have hv := HBD.out y (List.mem_of_getElem? HY.out)
      have hv0 := hv.1
      have hv1 := hv.2
      have HSE := Lib.hid hS
      clear hv hbs hS
      go_wp2
      go_round
      case rel => exact ⟨k + 1, by omega, by go_num, by rw [Dk.allN_snoc HY.out, HSE.out]⟩
      case measure => simp [intOf]; omega
    · obtain rfl : k = n := by omega
      have HGE : Hid (Dk.allN (l.take k) = R) := Lib.hid (by rw [← HRV.out, List.take_of_length_le (by have := HNL.out; omega)])
      generalize Dk.allN (l.take k) = S at *
      go_wp2
      go_ret
      exact ⟨ret_intT HGE.out, rfl⟩

end Go.Proofs.Ytadabjkhiaidcaa
end
