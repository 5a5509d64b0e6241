/- NumberTells returns true for every carrier, serial, place and digit and leaves the memory that was there as it was. -/
import Derived.Test.YtmofcaclohnmmaaTellP
import Derived.Test.YtmofcaclohnmmaaChecks
set_option linter.unusedVariables false
set_option linter.unusedSimpArgs false
namespace Go.Proofs.Ytmofcaclohnmmaa.numberTells
open Go.ChangeShapes Go.WideShapes Go.ChangeAt Go.RowKit

/-- '[]byte(s)': a new row whose first cells are the bytes, none of them frozen. -/
theorem conv_bytes (W : World) (S : ByteArray) : ∃ (row : Array Value) (cap : Nat), (convert 9 34 (.string S)).run Try.prog W = .ok (.slice (some ⟨W.heap.size, 0, none⟩) S.size cap) (W.drew.alloc (.cells row 5 (row.size, row.size + 1))) ∧
    S.size ≤ row.size ∧ ∀ (j : Nat) (x : UInt8), S.data.toList[j]? = some x → row[j]? = some (.int .u8 (x.toNat : Int)) := by
  refine ⟨_, _, run_bytes_of_string (P := Try.prog) W 9 34 5 S Try.underlying9 Try.underlying34 Try.underlying5, ?_, ?_⟩
  · show S.data.size ≤ _
    simp [bytesRow]
  · intro j x hx
    have hj : j < S.data.size := by
      have := (List.getElem?_eq_some_iff.1 hx).1
      simpa using this
    rw [bytesRow_at _ _ _ hj]
    have : S.data[j] = x := by
      rw [List.getElem?_eq_getElem (by simpa using hj)] at hx
      injection hx
    rw [this]

/-- 'string(s)' behind 's[i] = y'. -/
theorem conv_back (W : World) (row : Array Value) (fr : Nat × Nat) (l : List UInt8) (i : Nat) (hi : i < l.length) (y : UInt8) (t : Int) (ht : t = (y.toNat : Int)) (cap : Nat)
    (hrow : ∀ (j : Nat) (x : UInt8), l[j]? = some x → row[j]? = some (.int .u8 (x.toNat : Int))) :
    (convert 34 9 (.slice (some ⟨W.heap.size, 0, none⟩) l.length cap)).run Try.prog ((W.alloc (.cells row 5 fr)).setCell ⟨W.heap.size, i, none⟩ (.int .u8 t)).drew =
      .ok (.string ⟨(l.set i y).toArray⟩) ((W.alloc (.cells row 5 fr)).setCell ⟨W.heap.size, i, none⟩ (.int .u8 t)).drew := by
  have h := run_convert_bytes_back (P := Try.prog) ((W.alloc (.cells row 5 fr)).setCell ⟨W.heap.size, i, none⟩ (.int .u8 t)).drew 34 9 5 ⟨W.heap.size, 0, none⟩ cap (l.set i y) Try.underlying34 Try.underlying5 Try.underlying9 (by
    intro j hj
    have hj' : j < l.length := by simpa using hj
    have ha : (Addr.add ⟨W.heap.size, 0, none⟩ j) = ⟨W.heap.size, j, none⟩ := by unfold Addr.add; split <;> simp_all
    have hr := hrow j l[j] (List.getElem?_eq_getElem hj')
    have hc : (W.alloc (.cells row 5 fr)).cell? ⟨W.heap.size, j, none⟩ = some (.int .u8 (l[j].toNat : Int)) := by rw [World.cell?_alloc_mark, hr]
    rw [World.cell?_drew, ha]
    by_cases e : j = i
    · subst e
      rw [World.cell?_setCell_same (h := hc), ht]
      simp
    · rw [World.cell?_setCell_other (h := (by intro h; injection h with _ h; exact e h.symm : (⟨W.heap.size, i, none⟩ : Addr) ≠ ⟨W.heap.size, j, none⟩)), hc]
      rw [List.getElem_set_ne (fun h => e h.symm)])
  rw [List.length_set] at h
  exact h

theorem one_check (m : Int) (h : Num.check m = 0) (i : Int) (i0 : 0 ≤ i) (i9 : i ≤ 9) : Num.check (m / 10 * 10 + i) = if i = m % 10 then 0 else 11 := by
  have b := Num.check_zero h
  unfold Num.check
  rw [if_neg (by omega)]
  have e1 : (m / 10 * 10 + i) / 10 = m / 10 := by omega
  have e2 : (m / 10 * 10 + i) % 10 = i := by omega
  rw [e1, e2, b.2.2]
  by_cases c : i = m % 10
  · rw [if_pos c, if_pos c.symm]
  · rw [if_neg c, if_neg (fun h => c h.symm)]

attribute [local irreducible] Dec.text Dec.val Num.textOf Num.ofE Num.ofN Num.check Num.make Num.mkN Num.mkE Num.mayC Num.mayS

set_option maxRecDepth 20000 in
set_option maxHeartbeats 2000000 in
theorem walk (c s a t : Int) (wc : (Lit.int .i64 c).wf = true) (ws : (Lit.int .i64 s).wf = true) (wa : (Lit.int .i64 a).wf = true) (wt : (Lit.int .u8 t).wf = true) (w : World) :
    Calls Try.prog 5 #[.int .i64 c, .int .i64 s, .int .i64 a, .int .u8 t] w fun e w' => e = .returned (.bool true) ∧ Below w.heap.size w w' := by
  obtain ⟨bt0, bt1⟩ := u8_bd wt
  clear wc ws wa wt
  by_cases hgo : (Num.mayC c && Num.mayS s) = true ∧ 0 ≤ a ∧ a ≤ 12 ∧ 48 ≤ t ∧ t ≤ 57
  · obtain ⟨h, a0, a1, t0, t1⟩ := hgo
    have h1 : Num.mkN c s = Num.make c s := by unfold Num.mkN; rw [if_pos h]
    have h' := h
    rw [Bool.and_eq_true] at h'
    obtain ⟨hc, hs⟩ := h'
    have bc := Num.mayC_iff.1 hc
    have bs := Num.mayS_iff.1 hs
    obtain ⟨bc1, bc2⟩ := bc
    obtain ⟨bs1, bs2⟩ := bs
    obtain ⟨k1, k2, k3⟩ := Num.make_check c s hc hs
    obtain ⟨b1, b2⟩ := Num.make_bound c s hc hs
    have tb := numberMakes.text_back c s hc hs
    obtain ⟨o1, o2⟩ := numberMakes.of_back _ k1
    have b3 := (Num.check_zero k1).1
    generalize Num.make c s = m at *
    have HO := Lib.hid (one_check m k1)
    have K1 := Lib.hid k1
    clear hc hs k2 k3 k1
    go_enter Try.func5, Try.ntmps5
    go_wp2_with fail
    refine (rMake_any _ _ _).mono ?_
    rintro e w1 ⟨rfl, hb1⟩
    go_wp2_with fail
    go_loop [11, 12] (fun r i => ∃ k q : Nat, k ≤ 10 ∧ i = .int .u64 k ∧ r = .int .i64 q ∧ q ≤ 1 ∧ (q = 1 ↔ m % 10 < k)) (fun _ i => 10 - (intOf i).toNat)
    case atStart => exact ⟨0, 0, by omega, rfl, rfl, by omega, by omega⟩
    case round =>
      obtain ⟨k, q, hk, rfl, rfl, hq1, hq⟩ := hrel
      have HQ := Lib.hid hq; clear hq
      by_cases hlt : k < 10
      · by_cases he : (k : Int) = m % 10
        · have hck : Num.check (m / 10 * 10 + k) = 0 := by rw [HO.out k (by omega) (by omega), if_pos he]
          have HE := Lib.hid he; clear he
          go_wp2_with (first | (go_at_call 15; refine (check_any _ (by omega) (by omega) _).mono ?_; rintro e w' ⟨rfl, rfl⟩))
          go_round
          case rel => exact ⟨k + 1, q + 1, by omega, by go_num, by go_num, by have := HQ.out; have := HE.out; omega, by have := HQ.out; have := HE.out; omega⟩
          case measure => simp [intOf]; omega
        · have hck : Num.check (m / 10 * 10 + k) = 11 := by rw [HO.out k (by omega) (by omega), if_neg he]
          have HE := Lib.hid he; clear he
          go_wp2_with (first | (go_at_call 15; refine (check_any _ (by omega) (by omega) _).mono ?_; rintro e w' ⟨rfl, rfl⟩))
          go_round
          case rel => exact ⟨k + 1, q, by omega, by go_num, by go_num, by have := HQ.out; have := HE.out; omega, by have := HQ.out; have := HE.out; omega⟩
          case measure => simp [intOf]; omega
      · obtain rfl : k = 10 := by omega
        obtain rfl : q = 1 := HQ.out.2 (by omega)
        go_wp2_with fail
        refine (rText_any _ _ (by omega) (by omega) (by omega) (by omega) _).mono ?_
        rintro e w2 ⟨rfl, hb2⟩
        rw [tb]
        have hSl : (⟨(Dec.text m.toNat 13).toArray⟩ : ByteArray).data.toList = Dec.text m.toNat 13 := toList_mk _
        have hSs : (⟨(Dec.text m.toNat 13).toArray⟩ : ByteArray).size = 13 := by rw [size_string, Dec.text_length]
        have hall := Dec.text_all m.toNat 13
        have hlen := Dec.text_length m.toNat 13
        clear tb
        generalize (⟨(Dec.text m.toNat 13).toArray⟩ : ByteArray) = S at *
        generalize Dec.text m.toNat 13 = l at *
        obtain ⟨i, rfl⟩ := Int.eq_ofNat_of_zero_le a0
        obtain ⟨x, hx⟩ : ∃ x, l[i]? = some x := ⟨_, List.getElem?_eq_getElem (by omega)⟩
        have hxd : Dec.isDig x = true := by
          obtain ⟨hi, e⟩ := List.getElem?_eq_some_iff.1 hx
          exact List.all_eq_true.1 hall x (by rw [← e]; exact List.getElem_mem _)
        have dx := Dec.isDig_iff.1 hxd
        obtain ⟨row, cap, hrun, hrs, hrow⟩ := conv_bytes w2 S
        rw [hSs] at hrun hrs
        rw [hSl] at hrow
        obtain ⟨hri, hc0⟩ := Array.getElem?_eq_some_iff.1 (hrow i x hx)
        have HROW := Lib.hid hrow; clear hrow
        have HX := Lib.hid hx; clear hx
        have HL := Lib.hid hall; clear hall
        have HN := Lib.hid hlen; clear hlen
        have O1 := Lib.hid o1; clear o1
        have O2 := Lib.hid o2; clear o2
        have HSL := Lib.hid hSl; clear hSl
        have HSS := Lib.hid hSs; clear hSs hxd
        have hia : i ≤ 12 := by omega
        obtain ⟨dx1, dx2⟩ := dx
        have hcm := World.cell?_alloc_mark w2 row 5 (row.size, row.size + 1)
        have hfm := World.frozen?_alloc_mark w2 row 5 row.size (row.size + 1)
        obtain ⟨y, hy⟩ : ∃ y : UInt8, t = (y.toNat : Int) := ⟨UInt8.ofNat t.toNat, by rw [UInt8.toNat_ofNat']; omega⟩
        have hyd : Dec.isDig y = true := Dec.isDig_iff.2 (by omega)
        have hback := conv_back w2 row (row.size, row.size + 1) l i (by have := HN.out; omega) y t hy cap HROW.out
        rw [HN.out] at hback
        have htl := Tell.tells l HN.out HL.out O1.out i (by omega) x y HX.out hyd
        have hlen' : (l.set i y).length = 13 := by rw [List.length_set, HN.out]
        have hset : x = y → l.set i y = l := by
          intro e
          subst e
          obtain ⟨hi, e⟩ := List.getElem?_eq_some_iff.1 HX.out
          rw [← e]; exact List.set_getElem_self hi
        have hof : Num.ofE (l.set i y) ≠ 0 → Num.ofN (l.set i y) = 0 := by
          intro h
          unfold Num.ofN
          rw [if_neg h]
        have HTL := Lib.hid htl; clear htl
        have HL' := Lib.hid hlen'; clear hlen'
        have HST := Lib.hid hset; clear hset
        have HOF := Lib.hid hof; clear hof
        have HY := Lib.hid hy; clear hy
        generalize l.set i y = l' at *
        have HXY : Hid (x = y ↔ (x.toNat : Int) = t) := Lib.hid (by rw [HY.out]; exact ⟨fun h => by rw [h], fun h => UInt8.toNat_inj.1 (by omega)⟩)
        have hbw : Below w.heap.size w (((w2.alloc (.cells row 5 (row.size, row.size + 1))).setCell ⟨w2.heap.size, i, none⟩ (.int .u8 t)).drew) :=
          (((hb1.trans (hb2.mono hb1.size)).alloc (Nat.le_trans hb1.size hb2.size) _).setCell (Nat.le_trans hb1.size hb2.size) _).drew
        have HB := Lib.hid hbw; clear hbw
        have HW : Hid (∀ w' : World, Below (((w2.alloc (.cells row 5 (row.size, row.size + 1))).setCell ⟨w2.heap.size, i, none⟩ (.int .u8 t)).drew).heap.size (((w2.alloc (.cells row 5 (row.size, row.size + 1))).setCell ⟨w2.heap.size, i, none⟩ (.int .u8 t)).drew) w' → Below w.heap.size w w') := Lib.hid (fun w' h => numberChecks.below_call HB.out h)
        go_wp2_with fail
        refine (of_any _ (by rw [size_string, HL'.out]; decide) _).mono ?_
        rintro e w3 ⟨rfl, hb3⟩
        replace HW := Lib.hid (HW.out _ hb3)
        rw [toList_mk]
        by_cases c1 : (x.toNat : Int) = t
        · have q1 : ((x.toNat : Int) - t == 0) = true := by simp; omega
          have e1 : Num.ofE l' = 0 := by rw [HST.out (HXY.out.2 c1)]; exact O1.out
          have e2 : Num.ofN l' = m := by rw [HST.out (HXY.out.2 c1)]; exact O2.out
          have C1 := Lib.hid c1; clear c1
          go_wp2_with (first | (go_at_call 9; refine (known_any _).mono ?_; rintro e w' ⟨rfl, rfl⟩))
          go_ret
          exact ⟨rfl, HW.out⟩
        · have q1 : ((x.toNat : Int) - t == 0) = false := by simp; omega
          have hE : Num.ofE l' = if i = 0 ∧ y.toNat = 48 then 2 else if i < 12 ∧ (x.toNat = y.toNat + 7 ∨ y.toNat = x.toNat + 7) then 0 else 11 := by
            have h := HTL.out
            rwa [if_neg (fun h => c1 (HXY.out.1 h))] at h
          have hy := HY.out
          by_cases c2 : i = 0 ∧ y.toNat = 48
          · rw [if_pos c2] at hE
            have e2 := HOF.out (by rw [hE]; decide)
            obtain ⟨c2a, c2b⟩ := c2
            subst c2a
            have q2 : (t == 48) = true := by simp; omega
            clear hy
            have C1 := Lib.hid c1; clear c1
            go_wp2_with (first | (go_at_call 9; refine (known_any _).mono ?_; rintro e w' ⟨rfl, rfl⟩))
            go_ret
            exact ⟨rfl, HW.out⟩
          · rw [if_neg c2] at hE
            have q0 : ∀ P : Prop, (i = 0 → (t == 48) = false → P) → (((i : Int) == 0) = false → P) → P := by
              intro P p1 p2
              by_cases e : i = 0
              · exact p1 e (by simp; omega)
              · exact p2 (by simp; omega)
            have q7 : (x.toNat = y.toNat + 7 ↔ (x.toNat : Int) - t = 7) ∧ (y.toNat = x.toNat + 7 ↔ (x.toNat : Int) - t = -7) := by omega
            have C1 := Lib.hid c1; clear c1
            have C2 := Lib.hid c2; clear c2
            clear hy
            by_cases c3 : (x.toNat : Int) - t = 7
            · have r1 : ((x.toNat : Int) - t == 7) = true := by simp; omega
              have C3 := Lib.hid (q7.1.2 c3); clear c3 q7
              by_cases c4 : i < 12
              · rw [if_pos ⟨c4, .inl C3.out⟩] at hE
                refine q0 _ (fun e q => ?_) (fun q => ?_)
                · subst e
                  clear q0
                  go_wp2_with (first | (go_at_call 9; refine (known_any _).mono ?_; rintro e w' ⟨rfl, rfl⟩))
                  go_ret
                  exact ⟨rfl, HW.out⟩
                · clear q0
                  go_wp2_with (first | (go_at_call 9; refine (known_any _).mono ?_; rintro e w' ⟨rfl, rfl⟩))
                  go_ret
                  exact ⟨rfl, HW.out⟩
              · rw [if_neg (fun h => c4 h.1)] at hE
                obtain rfl : i = 12 := by omega
                clear q0
                go_wp2_with (first | (go_at_call 9; refine (known_any _).mono ?_; rintro e w' ⟨rfl, rfl⟩))
                go_ret
                exact ⟨rfl, HW.out⟩
            · have r1 : ((x.toNat : Int) - t == 7) = false := by simp; omega
              by_cases c5 : (x.toNat : Int) - t = -7
              · have r2 : ((x.toNat : Int) - t == -7) = true := by simp; omega
                have C3 := Lib.hid (q7.2.2 c5); clear c3 q7 c5
                by_cases c4 : i < 12
                · rw [if_pos ⟨c4, .inr C3.out⟩] at hE
                  refine q0 _ (fun e q => ?_) (fun q => ?_)
                  · subst e
                    clear q0
                    go_wp2_with (first | (go_at_call 9; refine (known_any _).mono ?_; rintro e w' ⟨rfl, rfl⟩))
                    go_ret
                    exact ⟨rfl, HW.out⟩
                  · clear q0
                    go_wp2_with (first | (go_at_call 9; refine (known_any _).mono ?_; rintro e w' ⟨rfl, rfl⟩))
                    go_ret
                    exact ⟨rfl, HW.out⟩
                · rw [if_neg (fun h => c4 h.1)] at hE
                  obtain rfl : i = 12 := by omega
                  clear q0
                  go_wp2_with (first | (go_at_call 9; refine (known_any _).mono ?_; rintro e w' ⟨rfl, rfl⟩))
                  go_ret
                  exact ⟨rfl, HW.out⟩
              · have r2 : ((x.toNat : Int) - t == -7) = false := by simp; omega
                rw [if_neg (fun h => h.2.elim (fun h => c3 (q7.1.1 h)) (fun h => c5 (q7.2.1 h)))] at hE
                have e2 := HOF.out (by rw [hE]; decide)
                clear c3 q7 c5
                refine q0 _ (fun e q => ?_) (fun q => ?_)
                · subst e
                  clear q0
                  go_wp2_with (first | (go_at_call 9; refine (known_any _).mono ?_; rintro e w' ⟨rfl, rfl⟩))
                  go_ret
                  exact ⟨rfl, HW.out⟩
                · clear q0
                  go_wp2_with (first | (go_at_call 9; refine (known_any _).mono ?_; rintro e w' ⟨rfl, rfl⟩))
                  go_ret
                  exact ⟨rfl, HW.out⟩
  · cases hb : (Num.mayC c && Num.mayS s)
    · clear hgo
      go_enter Try.func5, Try.ntmps5
      go_wp2_with fail
      refine (rMake_any _ _ _).mono ?_
      rintro e w1 ⟨rfl, hb1⟩
      go_wp2_with (first | (go_at_call 9; refine (known_any _).mono ?_; rintro e w' ⟨rfl, rfl⟩))
      go_ret
      exact ⟨rfl, hb1⟩
    · have h : a < 0 ∨ 12 < a ∨ t < 48 ∨ 57 < t := by
        rw [hb] at hgo
        simp only [true_and] at hgo
        omega
      clear hgo
      have HB := Lib.hid hb; clear hb
      rcases h with h | h | h | h
      all_goals
        go_enter Try.func5, Try.ntmps5
        go_wp2_with fail
        refine (rMake_any _ _ _).mono ?_
        rintro e w1 ⟨rfl, hb1⟩
        rw [HB.out]
        go_wp2_with (first | (go_at_call 9; refine (known_any _).mono ?_; rintro e w' ⟨rfl, rfl⟩))
        all_goals
          go_ret
          exact ⟨rfl, hb1⟩

set_option maxRecDepth 100000 in
theorem lifted (os : Os) (started : os.Started) (H : Type) (enc : TypeId × Value → H) :
    ReturnsInHanded {} Try.checked os 5 .any (Rows.numberTellsSpec.pre6 enc Try.prog Try.f5 Rows.numberTellsRow.domain false) (Rows.numberTellsSpec.post enc Try.prog Try.f5 false true false false) := by
  refine returnsInHanded_of_change (C := Try.checked) own started (by kernel_rfl) Try.func5
    (ChangeSpec.witness6 (enc := enc) (C := Try.checked) false ⟨#[], #[.int .i64 0, .int .i64 0, .int .i64 0, .int .u8 0], []⟩ 8 (by kernel_rfl) (by kernel_rfl) (by kernel_rfl) (by kernel_rfl)) ?_
  intro W base args ds gs before hval0 hW hcnd _
  have hval : ∀ (j : Nat) t v, Try.f5.params[j]? = some t → args[j]? = some v → Value.okWide Try.prog W .any base t v := hval0
  have hW' := hW
  obtain ⟨p, q, hA0, hV, rfl, hfz, hnd⟩ := hW
  have hA : DataW.TrodAll enc Try.prog W 0 (fun _ => true) true Try.f5.params.toList args.toList ds p := hA0
  rw [Try.params5] at hA hval
  obtain ⟨v0, vs0, d0, ds0, p0, q0, hargs, rfl, rfl, h0, r0⟩ := trodAll_cons hA
  obtain ⟨v1, vs1, d1, ds1, p1, q1, rfl, rfl, rfl, h1, r1⟩ := trodAll_cons r0
  obtain ⟨v2, vs2, d2, ds2, p2, q2, rfl, rfl, rfl, h2, r2⟩ := trodAll_cons r1
  obtain ⟨v3, vs3, d3, ds3, p3, q3, rfl, rfl, rfl, h3, r3⟩ := trodAll_cons r2
  obtain ⟨rfl, rfl, rfl⟩ := trodAll_nil r3
  obtain rfl : args = #[v0, v1, v2, v3] := by cases args; simp_all
  obtain ⟨c, rfl, rfl, rfl, wc⟩ := open_int Try.underlying3 (hval 0 3 v0 rfl rfl) h0
  obtain ⟨s, rfl, rfl, rfl, ws⟩ := open_int Try.underlying3 (hval 1 3 v1 rfl rfl) h1
  obtain ⟨a, rfl, rfl, rfl, wa⟩ := open_int Try.underlying3 (hval 2 3 v2 rfl rfl) h2
  obtain ⟨t, rfl, rfl, rfl, wt⟩ := open_int Try.underlying5 (hval 3 5 v3 rfl rfl) h3
  clear hA0 hval0
  refine (walk c s a t wc ws wa wt W).mono fun e W' ⟨he, hg⟩ => ?_
  subst he
  exact ⟨_, rfl, post_law laidOut rfl hW' ⟨rfl, rfl, rfl⟩ (by kernel_rfl) hg Try.underlying4 rfl⟩

theorem proved : Rows.NumberTellsSaid :=
  OpenClaim.holds_of_wide 5 Try.f5 rfl rfl rfl rfl rfl rfl rfl ⟨rfl, rfl, rfl, rfl, rfl⟩ rfl rfl rfl rfl rfl (by kernel_rfl) Try.func5 (by kernel_rfl)
    (of_decide_eq_true (by kernel_rfl)) (by unfold Func.isWrapper; first | (rw [if_pos (by decide +kernel)]; kernel_rfl) | (rw [if_neg (by decide +kernel)]; exact ⟨rfl, rfl⟩))
    (fun os started H enc _ => lifted os started H enc)
#print axioms proved
end Go.Proofs.Ytmofcaclohnmmaa.numberTells
