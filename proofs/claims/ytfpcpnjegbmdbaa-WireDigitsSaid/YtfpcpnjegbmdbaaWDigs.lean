/- WireDigits returns true for all bytes and texts, and leaves the memory that was there as it was. -/
import Derived.Test.YtfpcpnjegbmdbaaWHexA
import Derived.Lib.OthersKept
import Derived.WalkMore
import Derived.Test.YtfpcpnjegbmdbaaBytes
set_option linter.unusedSimpArgs false
set_option linter.unusedVariables false
namespace Go.Proofs.Ytfpcpnjegbmdbaa
open Go.RowKit

theorem digV16 {c : UInt8} (h : Hex.isHex c = true) : digV (c.toNat : Int) 16 = (Hex.hval c : Int) := by
  have := Hex.isHex_iff.1 h
  unfold digV Hex.hval
  rcases this with h | h
  · rw [if_pos (by omega), if_neg (by omega), if_pos h.2]; omega
  · rw [if_neg (by omega), if_pos (by omega), if_neg (by omega), if_neg (by omega)]; omega
theorem digV16_not {c : Int} (h : ¬ ((48 ≤ c ∧ c ≤ 57) ∨ (97 ≤ c ∧ c ≤ 102))) : digV c 16 = -1 := by
  unfold digV
  rw [if_neg (fun h' => h (.inl h')), if_neg (fun h' => h (.inr h'))]
theorem own_iter {w : World} {base e n k pos : Nat} {v : Value} {xs : List Value} {s : ByteArray} (h : w.ownsRow base e 1 v n xs) (hk : k < base) : (w.iterAt k s pos).ownsRow base e 1 v n xs := by
  obtain ⟨h1, h2⟩ := h
  refine ⟨h1, ?_⟩
  rcases h2 with h2 | ⟨g', cap, cur, rfl, hb, hh, h3⟩
  · exact .inl h2
  · exact .inr ⟨g', cap, cur, rfl, hb, (Lib.iterAt_other w k g' s pos (by omega)).trans hh, h3⟩
theorem iter_size (w : World) (k : Nat) (s : ByteArray) (pos : Nat) : (w.iterAt k s pos).heap.size = w.heap.size := Lib.iterAt_size w k s pos
theorem iterPos_at {w : World} {k pos : Nat} {s : ByteArray} (h : w.heap[k]? = some (.stringIter s pos)) : w.iterPos k = pos := by simp [World.iterPos, h]

set_option maxRecDepth 4000 in
set_option maxHeartbeats 2000000 in
theorem ofDigits_any (s : ByteArray) (hs : s.size ≤ 100000) (w : World) :
    Calls Try.prog 28 #[.string s] w fun e w' => ((Hex.mayHex s.data.toList = true ∧ ∃ v, e = .returned (.tuple #[v, .int .i64 0]) ∧ w'.ownsRow (w.heap.size + 1) 5 1 v (Hex.unhex s.data.toList).length (bytesV (Hex.unhex s.data.toList))) ∨
      (Hex.mayHex s.data.toList = false ∧ e = .returned (.tuple #[.slice none 0 0, .int .i64 4]))) ∧ Below w.heap.size w w' := by
  have hL : s.data.toList.length = s.size := by show s.data.toList.length = s.data.size; simp
  have HL := Lib.hid hL; clear hL
  have HMH : Hid (Hex.mayHex s.data.toList = (s.data.toList.all Hex.isHex && decide (s.data.toList.length % 2 = 0))) := Lib.hid rfl
  go_enter Try.func28, Try.ntmps28
  go_wp2
  go_step3
  go_wp2
  go_step3
  go_wp2
  go_loopw [4, 5] (fun o h wr => ∃ (k : Nat) (u : Value), k ≤ s.size ∧ o = u ∧ h = .int .i64 (Hex.highK s.data.toList k) ∧ Below w.heap.size w wr ∧ w.heap.size < wr.heap.size ∧ wr.heap[w.heap.size]? = some (.stringIter s k) ∧
      wr.ownsRow (w.heap.size + 1) 5 1 u (Hex.outK s.data.toList k).length (bytesV (Hex.outK s.data.toList k)) ∧ (s.data.toList.take k).all Hex.isHex = true) (fun _ _ wr => s.size - wr.iterPos w.heap.size)
  case atStart => exact ⟨0, _, Nat.zero_le _, rfl, rfl, iter_below _ _ _, by simp [World.iter], new_rowW _ _ _ rfl, World.ownsRow_nil _ _ _ _, rfl⟩
  case round =>
    obtain ⟨k, u, hk, rfl, rfl, hbw, hsz, hit, hown, hall⟩ := hrel
    have HO := Lib.hid hown; clear hown
    have HA := Lib.hid hall; clear hall
    have HBW := Lib.hid hbw; clear hbw
    have HIT := Lib.hid hit
    by_cases hlt : k < s.size
    · have HD := Lib.hid (drop_step s k hlt)
      have HG : Hid (s.data.toList.getD k 0 = s[k]) := Lib.hid (by
        have : s.data.toList[k]? = some s[k] := by rw [List.getElem?_eq_getElem (by simpa using hlt)]; rfl
        rw [List.getD_eq_getElem?_getD, this]; rfl)
      by_cases ha : (s[k]'hlt).toNat < 128
      · have hnx : ∀ ty, (Instr.next (.pointer (some ⟨w.heap.size, 0, none⟩)) true ty).run Try.prog wr = _ := fun ty => Lib.run_next_ascii_at wr w.heap.size s k ty hit hlt ha
        have HI2 := Lib.hid (Lib.iterAt_heap wr w.heap.size s k (k + 1) hit)
        have HB2 := Lib.hid (Lib.below_iterAt HBW.out (Nat.le_refl _) s (k + 1))
        have HO2 := Lib.hid (own_iter (s := s) (pos := k + 1) HO.out (Nat.lt_succ_self _))
        have hs2 : w.heap.size < (wr.iterAt w.heap.size s (k + 1)).heap.size := by rw [iter_size]; exact hsz
        clear hit
        generalize hW : wr.iterAt w.heap.size s (k + 1) = W at *
        clear hW
        by_cases hx : Hex.isHex s[k] = true
        · have HC := Lib.hid (wdigit_any (s[k].toNat : Int) 16 (by omega) (by omega) (by omega) (by omega))
          rw [digV16 hx] at HC
          have hv16 := Hex.hval_lt hx
          have HA2 : Hid ((s.data.toList.take (k + 1)).all Hex.isHex = true) := Lib.hid (by rw [take_snoc s k hlt, List.all_append, HA.out, List.all_cons, hx]; rfl)
          clear hx
          rcases Nat.mod_two_eq_zero_or_one k with hp | hp
          · have hh := Hex.highK_even s.data.toList k hp
            have HH2 := Lib.hid hh.2
            rw [HG.out] at HH2
            have hh1 := hh.1
            have HOE := Lib.hid (Hex.outK_even s.data.toList k hp)
            clear hh
            generalize Hex.highK s.data.toList k = hk0 at *
            subst hh1
            generalize Hex.hval s[k] = d at *
            go_wp2_with (first | (go_at_call 54; refine (HC.out _).mono ?_; rintro e w' ⟨rfl, rfl⟩))
            go_roundw
            case rel => exact ⟨k + 1, _, by omega, rfl, by rw [HH2.out], HB2.out, hs2, HI2.out, by rw [HOE.out]; exact HO2.out, HA2.out⟩
            case measure => rw [iterPos_at HI2.out, iterPos_at HIT.out]; omega
          · have hh := Hex.highK_odd s.data.toList k hp
            have HH2 := Lib.hid hh.2
            have hh1 := hh.1
            have HOD := Lib.hid (Hex.outK_odd s.data.toList k hp (by rw [HL.out]; exact hlt))
            rw [HG.out] at HOD
            have hpv : Hex.hval (s.data.toList.getD (k - 1) 0) < 16 := by
              refine Hex.hval_lt (List.all_eq_true.1 HA.out _ ?_)
              have h1 : k - 1 < s.data.toList.length := by have := HL.out; omega
              have h2 : (s.data.toList.take k)[k - 1]? = some (s.data.toList.getD (k - 1) 0) := by
                rw [List.getElem?_take_of_lt (by omega), List.getD_eq_getElem?_getD, List.getElem?_eq_getElem h1]; rfl
              exact List.mem_of_getElem? h2
            clear hh
            generalize Hex.highK s.data.toList k = hk0 at *
            subst hh1
            generalize Hex.hval (s.data.toList.getD (k - 1) 0) = hv at *
            generalize Hex.hval s[k] = d at *
            obtain ⟨y, hy⟩ : ∃ y, UInt8.ofNat (16 * hv + d) = y := ⟨_, rfl⟩
            have hto : (y.toNat : Int) = 16 * (hv : Int) + (d : Int) := by rw [← hy, UInt8.toNat_ofNat']; omega
            rw [hy] at HOD
            clear hy
            have hrb : BS (W.alloc (.cells #[.int .u8 (y.toNat : Int)] 5)) (.slice (some ⟨W.heap.size, 0, none⟩) 1 1) [y] := row_bytes W [y] 1 rfl (by decide)
            rw [hto] at hrb
            have HRB := Lib.hid hrb
            have hol := Hex.outK_length s.data.toList k
            clear hrb hto
            go_wp2_with (first
              | (go_at_call 54; refine (HC.out _).mono ?_; rintro e w' ⟨rfl, rfl⟩)
              | (at_builtin; refine wpList_append_bytes rfl _ _ rfl (w.heap.size + 1) _ _ _ rfl (HO2.out.alloc _) _ [y] rfl HRB.out ?c1 ?c2 ?_))
            case c1 => have := HL.out; simp; omega
            case c2 => simp; omega
            intro v2 w2 hown2 hg2 hn2 hat2
            have HB3 := Lib.hid ((ballocW HB2.out (.cells #[.int .u8 (16 * (hv : Int) + (d : Int))] 5)).grown hg2 (by simp; omega) (fun q hq => by have := (HO2.out.lt q hq).1; omega))
            have HO3 : Hid (w2.ownsRow (w.heap.size + 1) 5 1 v2 (Hex.outK s.data.toList (k + 1)).length (bytesV (Hex.outK s.data.toList (k + 1)))) := Lib.hid (by rw [HOD.out, bytesV_append, List.length_append]; exact hown2)
            have HI3 := Lib.hid ((hg2.block w.heap.size (by simp; omega) (fun hq => by have := (HO2.out.lt w.heap.size hq.symm).1; omega)).trans (row_allocW HI2.out _))
            have hs3 : w.heap.size < w2.heap.size := Nat.lt_of_lt_of_le hs2 (Nat.le_trans (by simp) hg2.size)
            clear hown2 hg2 hn2 hat2
            go_wp2
            go_roundw
            case rel => exact ⟨k + 1, _, by omega, rfl, by rw [HH2.out], HB3.out, hs3, HI3.out, HO3.out, HA2.out⟩
            case measure => rw [iterPos_at HI3.out, iterPos_at HIT.out]; omega
        · have HC := Lib.hid (wdigit_any (s[k].toNat : Int) 16 (by omega) (by omega) (by omega) (by omega))
          rw [digV16_not (fun h => hx (Hex.isHex_iff.2 (by omega)))] at HC
          have HNO : Hid (Hex.mayHex s.data.toList = false) := Lib.hid (by
            rw [HMH.out]
            have : s.data.toList.all Hex.isHex = false := by
              rw [List.all_eq_false]
              exact ⟨s[k], mem_of_lt s k hlt, by simpa using hx⟩
            rw [this]; rfl)
          clear hx
          go_wp2_with (first | (go_at_call 54; refine (HC.out _).mono ?_; rintro e w' ⟨rfl, rfl⟩))
          try rw [Exit.noGoto_ret]
          go_ret2
          exact ⟨.inr ⟨HNO.out, rfl⟩, HB2.out⟩
      · have hnx : ∀ ty, (Instr.next (.pointer (some ⟨w.heap.size, 0, none⟩)) true ty).run Try.prog wr = _ := fun ty => Lib.run_next_any_at wr w.heap.size s k ty hit hlt
        have hh := (decode_high s k hlt (by omega)).1
        have hh2 := Go.decode_le s k
        have HB2 := Lib.hid (Lib.below_iterAt HBW.out (Nat.le_refl _) s (k + (Utf8.decode s k).2))
        have HNO : Hid (Hex.mayHex s.data.toList = false) := Lib.hid (by
          rw [HMH.out]
          have : s.data.toList.all Hex.isHex = false := by
            rw [List.all_eq_false]
            refine ⟨s[k], mem_of_lt s k hlt, ?_⟩
            unfold Hex.isHex; simp; omega
          rw [this]; rfl)
        have HC := Lib.hid (wdigit_any ((Utf8.decode s k).1 : Int) 16 (by omega) (by omega) (by omega) (by omega))
        rw [digV16_not (by omega)] at HC
        clear hit
        generalize hW : wr.iterAt w.heap.size s (k + (Utf8.decode s k).2) = W at *
        clear hW
        generalize (Utf8.decode s k).1 = rr at *
        go_wp2_with (first | (go_at_call 54; refine (HC.out _).mono ?_; rintro e w' ⟨rfl, rfl⟩))
        try rw [Exit.noGoto_ret]
        go_ret2
        exact ⟨.inr ⟨HNO.out, rfl⟩, HB2.out⟩
    · have hnx : ∀ ty, (Instr.next (.pointer (some ⟨w.heap.size, 0, none⟩)) true ty).run Try.prog wr = _ := fun ty => Lib.run_next_end_at wr w.heap.size s k ty hit hlt
      obtain rfl : k = s.size := by omega
      have HA3 : Hid (s.data.toList.all Hex.isHex = true) := Lib.hid (by have := HA.out; rwa [List.take_of_length_le (by have := HL.out; omega)] at this)
      rcases Nat.mod_two_eq_zero_or_one s.size with hp | hp
      · have hh := (Hex.highK_even s.data.toList s.size hp).1
        have HO3 : Hid (Hex.outK s.data.toList s.size = Hex.unhex s.data.toList) := Lib.hid (by unfold Hex.outK; rw [List.take_of_length_le (by have := HL.out; omega)])
        have HY : Hid (Hex.mayHex s.data.toList = true) := Lib.hid (by rw [HMH.out, HA3.out, HL.out]; simpa using hp)
        have HO4 := HO.out
        rw [HO3.out] at HO4
        have HO4 := Lib.hid HO4
        generalize Hex.highK s.data.toList s.size = hk0 at *
        subst hh
        clear hit
        go_wp2
        try rw [Exit.noGoto_ret]
        go_ret2
        exact ⟨.inl ⟨HY.out, _, rfl, HO4.out⟩, HBW.out⟩
      · have hh := (Hex.highK_odd s.data.toList s.size hp).1
        have HNO : Hid (Hex.mayHex s.data.toList = false) := Lib.hid (by rw [HMH.out, HA3.out, HL.out]; simp; omega)
        generalize Hex.hval (s.data.toList.getD (s.size - 1) 0) = hv at *
        generalize Hex.highK s.data.toList s.size = hk0 at *
        subst hh
        clear hit
        go_wp2
        try rw [Exit.noGoto_ret]
        go_ret2
        exact ⟨.inr ⟨HNO.out, rfl⟩, HBW.out⟩
end Go.Proofs.Ytfpcpnjegbmdbaa
namespace Go.Proofs.Ytfpcpnjegbmdbaa.wireDigits
open Go.ChangeShapes Go.WideShapes Go.ChangeAt Go.RowKit
open Go.ChangeMaps (open_string shut_string)

theorem all_next (s : ByteArray) (k : Nat) (hlt : k < s.size) (d : Bool) : (d && (s.data.toList.take (k + 1)).all Hex.isHex) = ((d && (s.data.toList.take k).all Hex.isHex) && Hex.isHex s[k]) := by
  rw [take_snoc s k hlt, List.all_append]; simp [Bool.and_assoc]

set_option maxRecDepth 4000 in
set_option maxHeartbeats 2000000 in
theorem walk (v : Value) (b : List UInt8) (s : ByteArray) (ws : s.size ≤ maxLen) (w : World) (hv : BS w v b) :
    Calls Try.prog 6 #[v, .string s] w fun e w' => e = .returned (.bool true) ∧ Below w.heap.size w w' := by
  have HV := Lib.hid hv
  obtain ⟨p, cap, rfl, g1, g2, -⟩ := hv
  unfold maxLen at ws g2
  by_cases hb : 3000 < b.length
  · generalize b.length = n at *
    go_enter Try.func6, Try.ntmps6
    go_wp2_with fail
    refine (known01_any _).mono ?_
    rintro e w1 ⟨rfl, hb1⟩
    go_wp2
    go_ret
    exact ⟨rfl, hb1⟩
  by_cases hs : 3000 < s.size
  · generalize b.length = n at *
    go_enter Try.func6, Try.ntmps6
    go_wp2_with fail
    refine (known01_any _).mono ?_
    rintro e w1 ⟨rfl, hb1⟩
    go_wp2
    go_ret
    exact ⟨rfl, hb1⟩
  have HD := Lib.hid (fun W hv => wDigits_any (.slice p b.length cap) b (by omega) W hv)
  have HR := Lib.hid (fun W hv => rDigits_any (.slice p b.length cap) b (by omega) W hv)
  have hsz : (⟨(Hex.hexL b).toArray⟩ : ByteArray).size ≤ 100000 := by have := Hex.hexL_length b; simp [ByteArray.size]; omega
  have HO := Lib.hid (ofDigits_any ⟨(Hex.hexL b).toArray⟩ hsz)
  rw [show (⟨(Hex.hexL b).toArray⟩ : ByteArray).data.toList = Hex.hexL b from rfl, Hex.mayHex_hexL, Hex.unhex_hexL] at HO
  have HO2 := Lib.hid (ofDigits_any s (by omega))
  have hgs : (⟨b.toArray⟩ : ByteArray).toList = b := by rw [ByteArray.toList_eq]
  clear hsz
  generalize hT : (⟨(Hex.hexL b).toArray⟩ : ByteArray) = T at *
  clear hT
  have HST := Lib.hid (fun (W : World) (hv : BS W (.slice p b.length cap) b) => hv.to_string)
  generalize hn : b.length = n at *
  have HN := Lib.hid hn; clear hn
  go_enter Try.func6, Try.ntmps6
  go_wp2_with fail
  refine (HD.out _ HV.out).mono ?_
  rintro e w1 ⟨rfl, hb1⟩
  go_wp2_with fail
  refine (HO.out _).mono ?_
  rintro e w2 ⟨hcase, hb2⟩
  rcases hcase with ⟨_, x, rfl, hown⟩ | ⟨h, _⟩
  · replace hb2 := below_callW hb1 hb2
    clear hb1
    have HX := Lib.hid (BS.of_own hown)
    obtain ⟨q, c, rfl⟩ := own_form hown
    clear hown
    go_wp2_with fail
    refine (HR.out _ (HV.out.below hb2)).mono ?_
    rintro e w3 ⟨rfl, hb3⟩
    have hx3 := (HX.out.below hb3).to_string
    have HB3 := Lib.hid (below_callW hb2 hb3)
    have hv3 := HST.out w3 (HV.out.below HB3.out)
    clear hb2 hb3
    go_wp2_with fail
    refine (HO2.out _).mono ?_
    rintro e w4 ⟨hcase, hb4⟩
    clear hx3 hv3
    replace hb4 := below_callW HB3.out hb4
    rcases hcase with ⟨hmay, y, rfl, hown⟩ | ⟨hmay, rfl⟩
    · have HY := Lib.hid (BS.of_own hown)
      have hm2 := hmay
      unfold Hex.mayHex at hm2
      rw [Bool.and_eq_true, decide_eq_true_eq] at hm2
      have hback := Hex.hexL_unhex s.data.toList hm2.1 hm2.2
      have HR2 := Lib.hid (rDigits_any y _ (by have := Hex.unhex_length s.data.toList; have h2 : s.data.toList.length = s.size := by (show s.data.toList.length = s.data.size; simp)
                                               omega) w4 HY.out)
      rw [hback, show (⟨s.data.toList.toArray⟩ : ByteArray) = s from rfl] at HR2
      obtain ⟨q2, c2, rfl⟩ := own_form hown
      clear hown hm2 hback hmay
      go_wp2_with fail
      refine HR2.out.mono ?_
      rintro e w5 ⟨rfl, hb5⟩
      go_wp2_with fail
      refine (known01_any _).mono ?_
      rintro e w6 ⟨rfl, hb6⟩
      go_wp2
      go_ret
      exact ⟨rfl, below_callW (below_callW hb4 hb5) hb6⟩
    · have HMH : Hid ((decide (s.size % 2 = 0) && s.data.toList.all Hex.isHex) = false) := Lib.hid (by
        rw [← hmay]
        unfold Hex.mayHex
        rw [show s.data.toList.length = s.size from by show s.data.toList.length = s.data.size; simp, Bool.and_comm])
      clear hmay
      go_wp2
      go_loop [10, 11] (fun o i => ∃ (k : Nat) (q : Bool), k ≤ s.size ∧ i = .int .i64 k ∧ o = .bool q ∧ q = (decide (s.size % 2 = 0) && (s.data.toList.take k).all Hex.isHex)) (fun _ i => s.size - (intOf i).toNat)
      case atStart => exact ⟨0, _, Nat.zero_le _, rfl, rfl, by rw [Bool.eq_iff_iff]; simp; omega⟩
      case round =>
        obtain ⟨k, q, hk, rfl, rfl, hq⟩ := hrel
        have HQ := Lib.hid hq; clear hq
        by_cases hlt : k < s.size
        · have HN2 := Lib.hid (all_next s k hlt (decide (s.size % 2 = 0)))
          rw [← HQ.out] at HN2
          cases q
          · have HQ2 : Hid (false = (decide (s.size % 2 = 0) && (s.data.toList.take (k + 1)).all Hex.isHex)) := Lib.hid (by rw [HN2.out]; rfl)
            go_wp2
            go_round
            case rel => exact ⟨k + 1, false, by omega, by go_num, rfl, HQ2.out⟩
            case measure => simp [intOf]; omega
          · have key : ∀ r, Hex.isHex s[k] = r → Hid (r = (decide (s.size % 2 = 0) && (s.data.toList.take (k + 1)).all Hex.isHex)) := fun r hr => Lib.hid (by rw [HN2.out, hr]; rfl)
            have hx := @Hex.isHex_iff s[k]
            rcases (by omega : (s[k].toNat : Int) < 48 ∨ (48 ≤ (s[k].toNat : Int) ∧ (s[k].toNat : Int) ≤ 57) ∨ (57 < (s[k].toNat : Int) ∧ (s[k].toNat : Int) < 97) ∨ (97 ≤ (s[k].toNat : Int) ∧ (s[k].toNat : Int) ≤ 102) ∨ 102 < (s[k].toNat : Int)) with h | ⟨h, h'⟩ | ⟨h, h'⟩ | ⟨h, h'⟩ | h
            case inr.inl | inr.inr.inr.inl =>
              all_goals
                have HQ2 := key true (hx.2 (by omega))
                clear key hx
                go_wp2
                go_round
                case rel => exact ⟨k + 1, true, by omega, by go_num, rfl, HQ2.out⟩
                case measure => simp [intOf]; omega
            all_goals
              have HQ2 := key false (by rw [← Bool.not_eq_true, hx]; omega)
              clear key hx
              go_wp2
              go_round
              case rel => exact ⟨k + 1, false, by omega, by go_num, by first | rfl | (congr 1; rw [Bool.eq_iff_iff]; simp; omega), HQ2.out⟩
              case measure => simp [intOf]; omega
        · have hqf : q = false := by
            rw [HQ.out, List.take_of_length_le (by rw [show s.data.toList.length = s.size from by show s.data.toList.length = s.data.size; simp]; omega)]
            exact HMH.out
          subst hqf
          go_wp2_with fail
          refine (known01_any _).mono ?_
          rintro e w6 ⟨rfl, hb6⟩
          go_wp2
          go_ret
          exact ⟨rfl, below_callW hb4 hb6⟩
  · cases h

set_option maxRecDepth 100000 in
theorem lifted (os : Os) (started : os.Started) (H : Type) (enc : TypeId × Value → H) :
    ReturnsInHanded {} Try.checked os 6 .any (Rows.wireDigitsSpec.pre6 enc Try.prog Try.f6 Rows.wireDigitsRow.domain false) (Rows.wireDigitsSpec.post enc Try.prog Try.f6 false true false false) := by
  refine returnsInHanded_of_change (C := Try.checked) own started (by kernel_rfl) Try.func6
    (ChangeSpec.witness6 (enc := enc) (C := Try.checked) false ⟨#[], #[.slice none 0 0, .string ByteArray.empty], []⟩ 8 (by kernel_rfl) (by kernel_rfl) (by kernel_rfl) (by kernel_rfl)) ?_
  intro W base args ds gs before hval0 hW hcnd _
  have hval : ∀ (j : Nat) t v, Try.f6.params[j]? = some t → args[j]? = some v → Value.okWide Try.prog W .any base t v := hval0
  have hW' := hW
  obtain ⟨p, q, hA0, hV, rfl, hfz, hnd⟩ := hW
  have hA : DataW.TrodAll enc Try.prog W 0 (fun _ => true) true Try.f6.params.toList args.toList ds p := hA0
  rw [Try.params6] at hA hval
  obtain ⟨v0, vs0, d0, ds0, p0, q0, hargs, rfl, rfl, h0, r0⟩ := trodAll_cons hA
  obtain ⟨v1, vs1, d1, ds1, p1, q1, rfl, rfl, rfl, h1, r1⟩ := trodAll_cons r0
  obtain ⟨rfl, rfl, rfl⟩ := trodAll_nil r1
  obtain rfl : args = #[v0, v1] := by cases args; simp_all
  obtain ⟨b, hb⟩ := open_bytes (hval 0 _ v0 rfl rfl) h0
  obtain ⟨s, rfl, rfl, rfl, ws⟩ := open_string Try.underlying9 (hval 1 9 v1 rfl rfl) h1
  clear hA0 hval0
  refine (walk v0 b s ws W hb).mono fun e W' ⟨he, hg⟩ => ?_
  subst he
  exact ⟨_, rfl, post_law laidOut rfl hW' ⟨rfl, rfl, rfl⟩ (by kernel_rfl) hg Try.underlying4 rfl⟩

theorem proved : Rows.WireDigitsSaid :=
  OpenClaim.holds_of_wide 6 Try.f6 rfl rfl rfl rfl rfl rfl rfl ⟨rfl, rfl, rfl, rfl, rfl⟩ rfl rfl rfl rfl rfl (by kernel_rfl) Try.func6 (by kernel_rfl)
    (of_decide_eq_true (by kernel_rfl)) (by unfold Func.isWrapper; first | (rw [if_pos (by decide +kernel)]; kernel_rfl) | (rw [if_neg (by decide +kernel)]; exact ⟨rfl, rfl⟩))
    (fun os started H enc _ => lifted os started H enc)
#print axioms proved
end Go.Proofs.Ytfpcpnjegbmdbaa.wireDigits
