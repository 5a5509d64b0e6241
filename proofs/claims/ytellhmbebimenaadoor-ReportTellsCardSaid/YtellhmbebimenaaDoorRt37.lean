/- Contracts: the reference's text of a number, and of a posting (couponref14). The library's table of powers of ten, as it is laid; contracts of strconv.Itoa and FormatInt at base 10 over it. -/
import Derived.Test.YtellhmbebimenaaDoorRt31
import Derived.Test.YtellhmbebimenaaDoorRt11
import Derived.Test.YtellhmbebimenaaDoorRt34
import Derived.Test.YtellhmbebimenaaDoorRt1
import Derived.Test.YtellhmbebimenaaDoorRt36
import Derived.Deep.Cut
import Derived.Test.YtellhmbebimenaaDoorShelf
import Derived.Test.YtellhmbebimenaaDoorRows
import Derived.Lib.AppendIntMem
import Derived.Lib.LaidTab
import Derived.Lib.LaidU8
import Derived.LaidMore

section
set_option linter.unusedVariables false
set_option linter.unusedSimpArgs false
namespace Go.Proofs.YtellhmbebimenaaDoor
open Go.RowKit

set_option maxHeartbeats 400000 in
theorem rdig14_any (n : Int) (h0 : -4611686018427387904 ≤ n) (h1 : n ≤ 4611686018427387904) (w : World) :
    Calls Tryd.prog 76 #[.int .i64 n] w fun e w' => e = .returned (.string ⟨(Post.sdig n).toArray⟩) ∧ Below w.heap.size w w' := by
  by_cases hn : n < 0
  · obtain ⟨u, rfl⟩ : ∃ u : Nat, n = -(u : Int) := ⟨n.natAbs, by omega⟩
    have e0 : Post.sdig (-(u : Int)) = 45 :: Dec.digits u := by unfold Post.sdig; rw [if_pos (by omega)]; simp
    rw [e0]
    have HD := Lib.hid (fun W => rdigits_any (u : Int) (by omega) (by omega) W)
    have HL : Hid ((Dec.digits u).length ≤ 20) := Lib.hid (Post.dig_len u (by omega))
    simp only [Int.toNat_natCast] at HD
    have z1 : IntKind.u64.wrap (u : Int) = (u : Int) := by rw [IntKind.wrap_u64]; omega
    have hs : (⟨(Dec.digits u).toArray⟩ : ByteArray).size ≤ 20 := by rw [size_string]; exact HL.out
    have HE : Hid ((⟨#[45]⟩ : ByteArray) ++ ⟨(Dec.digits u).toArray⟩ = ⟨(45 :: Dec.digits u).toArray⟩) := Lib.hid (by rw [show (⟨#[45]⟩ : ByteArray) = ⟨([45] : List UInt8).toArray⟩ from rfl, app_string]; rfl)
    generalize hR : (⟨(45 :: Dec.digits u).toArray⟩ : ByteArray) = R at *
    have HR := Lib.hid hR
    clear hR e0
    generalize hS : (⟨(Dec.digits u).toArray⟩ : ByteArray) = S at *
    clear hS
    go_enter Tryd.func76, Tryd.ntmps76
    go_wp2_with (go_at_call 42; refine (HD.out _).mono ?_; rintro e w' ⟨rfl, hb⟩)
    go_ret
    exact ⟨ret_string HE.out, hb⟩
  · obtain ⟨u, rfl⟩ : ∃ u : Nat, n = (u : Int) := ⟨n.toNat, by omega⟩
    have e0 : Post.sdig (u : Int) = Dec.digits u := by unfold Post.sdig; rw [if_neg (by omega)]; simp
    rw [e0]
    have HD := Lib.hid (fun W => rdigits_any (u : Int) (by omega) (by omega) W)
    simp only [Int.toNat_natCast] at HD
    have z1 : IntKind.u64.wrap (u : Int) = (u : Int) := by rw [IntKind.wrap_u64]; omega
    generalize hS : (⟨(Dec.digits u).toArray⟩ : ByteArray) = S at *
    clear hS
    go_enter Tryd.func76, Tryd.ntmps76
    go_wp2_with (go_at_call 42; refine (HD.out _).mono ?_; rintro e w' ⟨rfl, hb⟩)
    go_ret
    exact ⟨rfl, hb⟩
theorem may_facts {d t s k : Int} {am : List Int} (h : Post.may d t s k am = true) : (1 ≤ k ∧ k ≤ 5) ∧ (0 ≤ d ∧ d ≤ 1000000) ∧ (1 ≤ s ∧ s ≤ 200) ∧ Num.check t = 0 ∧ ∀ x ∈ am, -1125899906842624 ≤ x ∧ x ≤ 1125899906842624 := by
  rw [may_parts] at h
  simp only [Bool.and_eq_true, decide_eq_true_eq] at h
  refine ⟨⟨h.1.1.1.1.1.1.1, h.1.1.1.1.1.1.2⟩, ⟨h.1.1.1.1.2, h.1.1.1.2⟩, ⟨h.1.1.2, h.1.2⟩, h.2, ?_⟩
  have hc := h.1.1.1.1.1.2
  unfold Post.cols at hc
  simp only [Bool.and_eq_true, Bool.not_eq_true'] at hc
  exact fun x hx => Post.any_in hc.1.1.1 hx
theorem am_bd {am : List Int} (h : ∀ x ∈ am, -1125899906842624 ≤ x ∧ x ≤ 1125899906842624) (j : Nat) : -1125899906842624 ≤ am.getD j 0 ∧ am.getD j 0 ≤ 1125899906842624 := by
  rw [List.getD_eq_getElem?_getD]
  rcases Nat.lt_or_ge j am.length with h' | h'
  · rw [List.getElem?_eq_getElem h']; exact h _ (List.getElem_mem h')
  · rw [List.getElem?_eq_none h']; simp
theorem name_at (K : Nat) (h : K < 5) : (#[.string ⟨#[105, 115, 115, 117, 101]⟩, .string ⟨#[118, 111, 105, 100]⟩, .string ⟨#[102, 108, 121]⟩, .string ⟨#[114, 101, 102, 117, 110, 100]⟩, .string ⟨#[101, 120, 99, 104, 97, 110, 103, 101]⟩] : Array Value)[K]? = some (.string (Str (Post.name ((K : Int) + 1)))) := by
  match K, h with
  | 0, _ => rfl
  | 1, _ => rfl
  | 2, _ => rfl
  | 3, _ => rfl
  | 4, _ => rfl
theorem mark_at (j : Nat) (h : j < 6) : (#[.string ⟨#[32, 67]⟩, .string ⟨#[32, 76]⟩, .string ⟨#[32, 82]⟩, .string ⟨#[32, 84]⟩, .string ⟨#[32, 80]⟩, .string ⟨#[32, 86]⟩] : Array Value)[j]? = some (.string ⟨([32, Post.letters.getD j 0] : List UInt8).toArray⟩) := by
  match j, h with
  | 0, _ => rfl
  | 1, _ => rfl
  | 2, _ => rfl
  | 3, _ => rfl
  | 4, _ => rfl
  | 5, _ => rfl
set_option maxRecDepth 4000 in
set_option maxHeartbeats 2000000 in
theorem rText14_any (d t s k a0 a1 a2 a3 a4 a5 : Int) (ht0 : 0 ≤ t) (ht1 : t ≤ 18446744073709551615) (w : World) :
    Calls Tryd.prog 27 #[.agg #[.int .i64 d, .int .u64 t, .int .i64 s, .int .i64 k, .int .i64 a0, .int .i64 a1, .int .i64 a2, .int .i64 a3, .int .i64 a4, .int .i64 a5]] w fun e w' => e = .returned (.string (Post.textB d t s k [a0, a1, a2, a3, a4, a5])) ∧ Below w.heap.size w w' := by
  have HMY := Lib.hid (fun W => rMay_any d t s k a0 a1 a2 a3 a4 a5 ht0 ht1 W)
  obtain ⟨q, hq⟩ : ∃ q, Post.may d t s k [a0, a1, a2, a3, a4, a5] = q := ⟨_, rfl⟩
  have HRS : Hid (Post.textB d t s k [a0, a1, a2, a3, a4, a5] = if q = true then ⟨(Post.textL d t s k [a0, a1, a2, a3, a4, a5]).toArray⟩ else ⟨#[]⟩) := Lib.hid (by unfold Post.textB; rw [hq])
  rw [hq] at HMY
  have HQ := Lib.hid hq
  clear hq
  generalize Post.textB d t s k [a0, a1, a2, a3, a4, a5] = RS at *
  cases q
  · go_enter Tryd.func27, Tryd.ntmps27
    go_wp2_with fail
    refine (HMY.out _).mono ?_
    rintro e w1 ⟨rfl, hbm⟩
    have HB1 := Lib.hid (((Below.refl w.heap.size w).alloc (Nat.le_refl _) (.cells #[.int .i64 d, .int .u64 t, .int .i64 s, .int .i64 k, .int .i64 a0, .int .i64 a1, .int .i64 a2, .int .i64 a3, .int .i64 a4, .int .i64 a5] 49)).trans (hbm.mono (by simp)))
    clear hbm
    go_wp2
    go_ret
    exact ⟨ret_string HRS.out.symm, HB1.out⟩
  · obtain ⟨⟨k1, k5⟩, hd, hs, hck, ha⟩ := may_facts HQ.out
    obtain ⟨K, rfl⟩ : ∃ K : Nat, k = (K : Int) + 1 := ⟨(k - 1).toNat, by omega⟩
    have hK : K < 5 := by omega
    have HNM := Lib.hid (name_at K hK)
    have HMK := Lib.hid mark_at
    have HD := Lib.hid (fun W => rdigits_any t ht0 ht1 W)
    have HS1 := Lib.hid (fun W => rdig14_any s (by omega) (by omega) W)
    have HS2 := Lib.hid (fun W => rdig14_any d (by omega) (by omega) W)
    have HAM := Lib.hid (fun W => rAmounts_any d t s ((K : Int) + 1) a0 a1 a2 a3 a4 a5 W)
    have HJ0 := Lib.hid (Post.textJ_zero d t s ((K : Int) + 1) [a0, a1, a2, a3, a4, a5])
    obtain ⟨am, hamd⟩ : ∃ am, am = [a0, a1, a2, a3, a4, a5] := ⟨_, rfl⟩
    have hal : am.length = 6 := by rw [hamd]; rfl
    rw [← hamd] at HAM HJ0 HRS ha
    have HA := Lib.hid ha
    have HLEN := Lib.hid (Post.textJ_len d t s ((K : Int) + 1) am (by omega) (by omega) (by omega) (fun x hx => by have := ha x hx; omega))
    have HSU := Lib.hid (Post.textJ_succ d t s ((K : Int) + 1) am)
    have HTL : Hid (RS = ⟨(Post.textJ d t s ((K : Int) + 1) am 6).toArray⟩) := Lib.hid HRS.out
    clear hck ha hamd HRS HQ
    have hz1 : (Str (Post.name ((K : Int) + 1))).size ≤ 8 := by rw [Str_size]; exact Post.name_len _
    have hz2 : (⟨(Dec.digits t.toNat).toArray⟩ : ByteArray).size ≤ 20 := digits_size _ (by omega)
    have hz3 : (⟨(Post.sdig s).toArray⟩ : ByteArray).size ≤ 21 := by rw [size_string]; exact Post.sdig_len _ (by omega)
    have hz4 : (⟨(Post.sdig d).toArray⟩ : ByteArray).size ≤ 21 := by rw [size_string]; exact Post.sdig_len _ (by omega)
    have HE0 : Hid ((((((Str (Post.name ((K : Int) + 1)) ++ ⟨#[32]⟩) ++ ⟨(Dec.digits t.toNat).toArray⟩) ++ ⟨#[32]⟩) ++ ⟨(Post.sdig s).toArray⟩) ++ ⟨#[32]⟩) ++ ⟨(Post.sdig d).toArray⟩ = ⟨(Post.textJ d t s ((K : Int) + 1) am 0).toArray⟩) := Lib.hid (by
      rw [HJ0.out, show (⟨#[32]⟩ : ByteArray) = ⟨([32] : List UInt8).toArray⟩ from rfl]
      unfold Str
      simp only [app_string])
    generalize Str (Post.name ((K : Int) + 1)) = nm at *
    generalize hDD : (⟨(Dec.digits t.toNat).toArray⟩ : ByteArray) = DD at *
    generalize hS1 : (⟨(Post.sdig s).toArray⟩ : ByteArray) = SS at *
    generalize hS2 : (⟨(Post.sdig d).toArray⟩ : ByteArray) = SD at *
    clear hDD hS1 hS2 HJ0
    generalize hTJ : Post.textJ d t s ((K : Int) + 1) am = TJ at *
    clear hTJ
    go_enter Tryd.func27, Tryd.ntmps27
    go_wp2_with fail
    have hrp : (w.alloc (.cells #[.int .i64 d, .int .u64 t, .int .i64 s, .int .i64 ((K : Int) + 1), .int .i64 a0, .int .i64 a1, .int .i64 a2, .int .i64 a3, .int .i64 a4, .int .i64 a5] 49)).heap[w.heap.size]? = some (.cells #[.int .i64 d, .int .u64 t, .int .i64 s, .int .i64 ((K : Int) + 1), .int .i64 a0, .int .i64 a1, .int .i64 a2, .int .i64 a3, .int .i64 a4, .int .i64 a5] 49 (0, 0)) := new_rowW _ _ _ rfl
    have HBP := Lib.hid ((Below.refl w.heap.size w).alloc (Nat.le_refl _) (.cells #[.int .i64 d, .int .u64 t, .int .i64 s, .int .i64 ((K : Int) + 1), .int .i64 a0, .int .i64 a1, .int .i64 a2, .int .i64 a3, .int .i64 a4, .int .i64 a5] 49))
    generalize w.alloc (.cells #[.int .i64 d, .int .u64 t, .int .i64 s, .int .i64 ((K : Int) + 1), .int .i64 a0, .int .i64 a1, .int .i64 a2, .int .i64 a3, .int .i64 a4, .int .i64 a5] 49) = W0 at *
    refine (HMY.out _).mono ?_
    rintro e w1 ⟨rfl, hbm⟩
    have HRW := Lib.hid ((hbm.block _ (block_lt hrp)).trans hrp)
    have HB1 := Lib.hid (HBP.out.trans (hbm.mono HBP.out.size))
    clear hbm hrp
    go_upto_region 5 with fail
    have HB2 := Lib.hid ((HB1.out.alloc HB1.out.size (.cells #[.string ⟨#[105, 115, 115, 117, 101]⟩, .string ⟨#[118, 111, 105, 100]⟩, .string ⟨#[102, 108, 121]⟩, .string ⟨#[114, 101, 102, 117, 110, 100]⟩, .string ⟨#[101, 120, 99, 104, 97, 110, 103, 101]⟩] 9)).alloc (by have := HB1.out.size; simp; omega) (.cells #[.string ⟨#[32, 67]⟩, .string ⟨#[32, 76]⟩, .string ⟨#[32, 82]⟩, .string ⟨#[32, 84]⟩, .string ⟨#[32, 80]⟩, .string ⟨#[32, 86]⟩] 9))
    have HR2 := Lib.hid (row_allocW (row_allocW HRW.out (.cells #[.string ⟨#[105, 115, 115, 117, 101]⟩, .string ⟨#[118, 111, 105, 100]⟩, .string ⟨#[102, 108, 121]⟩, .string ⟨#[114, 101, 102, 117, 110, 100]⟩, .string ⟨#[101, 120, 99, 104, 97, 110, 103, 101]⟩] 9)) (.cells #[.string ⟨#[32, 67]⟩, .string ⟨#[32, 76]⟩, .string ⟨#[32, 82]⟩, .string ⟨#[32, 84]⟩, .string ⟨#[32, 80]⟩, .string ⟨#[32, 86]⟩] 9))
    have HN2 := Lib.hid (row_allocW (new_rowW w1 (.cells #[.string ⟨#[105, 115, 115, 117, 101]⟩, .string ⟨#[118, 111, 105, 100]⟩, .string ⟨#[102, 108, 121]⟩, .string ⟨#[114, 101, 102, 117, 110, 100]⟩, .string ⟨#[101, 120, 99, 104, 97, 110, 103, 101]⟩] 9) _ rfl) (.cells #[.string ⟨#[32, 67]⟩, .string ⟨#[32, 76]⟩, .string ⟨#[32, 82]⟩, .string ⟨#[32, 84]⟩, .string ⟨#[32, 80]⟩, .string ⟨#[32, 86]⟩] 9))
    have HM2 := Lib.hid (new_rowW (w1.alloc (.cells #[.string ⟨#[105, 115, 115, 117, 101]⟩, .string ⟨#[118, 111, 105, 100]⟩, .string ⟨#[102, 108, 121]⟩, .string ⟨#[114, 101, 102, 117, 110, 100]⟩, .string ⟨#[101, 120, 99, 104, 97, 110, 103, 101]⟩] 9)) (.cells #[.string ⟨#[32, 67]⟩, .string ⟨#[32, 76]⟩, .string ⟨#[32, 82]⟩, .string ⟨#[32, 84]⟩, .string ⟨#[32, 80]⟩, .string ⟨#[32, 86]⟩] 9) (w1.heap.size + 1) (by simp))
    generalize (w1.alloc (.cells #[.string ⟨#[105, 115, 115, 117, 101]⟩, .string ⟨#[118, 111, 105, 100]⟩, .string ⟨#[102, 108, 121]⟩, .string ⟨#[114, 101, 102, 117, 110, 100]⟩, .string ⟨#[101, 120, 99, 104, 97, 110, 103, 101]⟩] 9)).alloc (.cells #[.string ⟨#[32, 67]⟩, .string ⟨#[32, 76]⟩, .string ⟨#[32, 82]⟩, .string ⟨#[32, 84]⟩, .string ⟨#[32, 80]⟩, .string ⟨#[32, 86]⟩] 9) = w2 at *
    generalize w1.heap.size + 1 = gm at *
    generalize w1.heap.size = gn at *
    have hcu := fun (u : Later w2) (j : Nat) => (u.cell w.heap.size j (block_lt HR2.out)).trans (cell_of_row w2 w.heap.size j _ _ _ HR2.out)
    have hnu : ∀ u : Later w2, u.val.cell? ⟨gn, K, none⟩ = some (.string nm) := fun u => (u.cell gn K (block_lt HN2.out)).trans ((cell_of_row w2 gn K _ _ _ HN2.out).trans HNM.out)
    refine wp_region_later (by kernel_rfl) (by kernel_rfl) ?_
    repeat (go_big_quiet_step (first | (go_at_call 42; exact later_call (HD.out _)) | (go_at_call 76; first | with_reducible exact later_call (HS1.out _) | with_reducible exact later_call (HS2.out _))))
    refine wpQuiet_nil ?_
    rintro w3 ⟨u, rfl⟩
    have HB3 := Lib.hid (HB2.out.trans (u.prop.mono HB2.out.size))
    have HR3 := Lib.hid ((u.prop.block _ (block_lt HR2.out)).trans HR2.out)
    have HM3 := Lib.hid ((u.prop.block _ (block_lt HM2.out)).trans HM2.out)
    clear hcu hnu
    generalize u.val = w3 at *
    rw [HE0.out]
    have hc3 := fun j => cell_of_row w3 w.heap.size j _ _ _ HR3.out
    go_wp2_with fail
    refine (HAM.out _).mono ?_
    rintro e w4 ⟨b, hbl, rfl, hrow, hb4⟩
    have HB4 := Lib.hid (HB3.out.trans (hb4.mono HB3.out.size))
    have HM4 := Lib.hid ((hb4.block _ (block_lt HM3.out)).trans HM3.out)
    have HA4 := Lib.hid hrow
    clear hb4 hrow hc3 hbl
    go_wp2_with fail
    go_loopw [5, 7] (fun sv i wr => ∃ (j : Nat) (S : ByteArray), j ≤ 6 ∧ i = .int .i64 j ∧ sv = .string S ∧ S = ⟨(TJ j).toArray⟩ ∧ Below w4.heap.size w4 wr) (fun _ i _ => 6 - (intOf i).toNat)
    case atStart => exact ⟨0, _, by omega, rfl, rfl, rfl, Below.refl _ _⟩
    case round =>
      obtain ⟨j, S, hj, rfl, rfl, hS, hb⟩ := hrel
      have HS := Lib.hid hS
      have HB := Lib.hid hb
      have hSz : S.size ≤ 224 := by rw [hS, size_string]; have := HLEN.out j; omega
      clear hS hb
      by_cases hlt : j < 6
      · have HAr := Lib.hid ((HB.out.block _ (block_lt HA4.out)).trans HA4.out)
        have HMr := Lib.hid ((HB.out.block _ (block_lt HM4.out)).trans HM4.out)
        have hca : wr.cell? ⟨b, j, none⟩ = some (.int .i64 (am.getD j 0)) := (cell_of_row wr b j _ _ _ HAr.out).trans (Post.amRow_at (by omega))
        have HSJ := Lib.hid (HSU.out j)
        have HDZ := Lib.hid (fun W => rdig14_any (am.getD j 0) (by have := am_bd HA.out j; omega) (by have := am_bd HA.out j; omega) W)
        have hzz : (⟨(Post.sdig (am.getD j 0)).toArray⟩ : ByteArray).size ≤ 21 := by rw [size_string]; exact Post.sdig_len _ (by have := am_bd HA.out j; omega)
        generalize am.getD j 0 = z at *
        obtain ⟨nz, hnz⟩ : ∃ b, (z != 0) = b := ⟨_, rfl⟩
        cases nz
        · have HN : Hid (TJ (j + 1) = TJ j) := Lib.hid (by rw [HSJ.out, if_pos (by simpa using hnz)]; simp)
          clear hzz
          go_wp2_with fail
          go_roundw
          case rel => exact ⟨j + 1, _, by omega, by go_num, rfl, by rw [HN.out]; exact HS.out, HB.out⟩
          case measure => simp [intOf]; omega
        · have HN : Hid ((S ++ ⟨([32, Post.letters.getD j 0] : List UInt8).toArray⟩) ++ ⟨(Post.sdig z).toArray⟩ = ⟨(TJ (j + 1)).toArray⟩) := Lib.hid (by
            rw [HSJ.out, if_neg (by simpa using hnz), HS.out, app_string, app_string, List.append_assoc])
          have hcm : wr.cell? ⟨gm, j, none⟩ = some (.string ⟨([32, Post.letters.getD j 0] : List UInt8).toArray⟩) := (cell_of_row wr gm j _ _ _ HMr.out).trans (HMK.out j hlt)
          have hz5 : (⟨([32, Post.letters.getD j 0] : List UInt8).toArray⟩ : ByteArray).size ≤ 2 := by rw [size_string]; simp
          have HLm := Lib.hid (block_lt HMr.out)
          have HLa := Lib.hid (block_lt HAr.out)
          generalize (⟨([32, Post.letters.getD j 0] : List UInt8).toArray⟩ : ByteArray) = MK at *
          generalize hSZ : (⟨(Post.sdig z).toArray⟩ : ByteArray) = SZ at *
          clear hSZ
          go_upto_region 11 with fail
          have hcu := fun (u : Later wr) => (u.cell b j HLa.out).trans hca
          have hmu := fun (u : Later wr) => (u.cell gm j HLm.out).trans hcm
          refine wp_region_later (by kernel_rfl) (by kernel_rfl) ?_
          repeat (go_big_quiet_step ((go_at_call 76; exact later_call (HDZ.out _))))
          refine wpQuiet_nil ?_
          rintro w9 ⟨u, rfl⟩
          have HBU := Lib.hid (HB.out.trans (u.prop.mono HB.out.size))
          clear hcu hmu hca hcm
          generalize u.val = w9 at *
          go_wp2_with fail
          go_roundw
          case rel => exact ⟨j + 1, _, by omega, by go_num, rfl, HN.out, HBU.out⟩
          case measure => simp [intOf]; omega
      · obtain rfl : j = 6 := by omega
        go_wp2
        go_ret
        exact ⟨ret_string (by rw [HS.out]; exact HTL.out.symm), HB4.out.trans (HB.out.mono HB4.out.size)⟩
end Go.Proofs.YtellhmbebimenaaDoor
end

section
set_option linter.unusedVariables false
set_option linter.unusedSimpArgs false
namespace Go.Proofs.YtellhmbebimenaaDoor
open Go.RowKit Go.ChangeShapes

/-- the table lies as its initialiser lays it -/
def Tab (w : World) : Prop := Lib.TabIs Tryd.prog w "internal/strconv.uint64pow10" .u64 Lib.pow10Tab
theorem Tab.below {w w' : World} (h : Tab w) (hb : Below w.heap.size w w') : Tab w' := Lib.tabBelow_of_tabIs h w' hb
theorem below_grow (w : World) (k : Nat) (os : Array Obj) : Below w.heap.size w (Sort.grow (w.drewN k) os) := by
  refine ⟨rfl, rfl, rfl, ?_, fun i hi => ?_⟩
  · show w.heap.size ≤ (w.heap ++ os).size
    simp
  · show (w.heap ++ os)[i]? = _
    rw [Array.getElem?_append_left hi]
theorem itoa_any (n : Int) (h0 : -9223372036854775808 ≤ n) (h1 : n ≤ 9223372036854775807) (w : World) (ht : Tab w) :
    Calls Tryd.prog 73 #[.int .i64 n] w fun e w' => e = .returned (.string ⟨(Post.sdig n).toArray⟩) ∧ Below w.heap.size w w' :=
  (Tryd.strconv_Itoa n h0 h1 w ht).mono fun e w' ⟨he, k, os, hw⟩ => ⟨by rw [he, Post.sdig_itoa], by rw [hw]; exact below_grow w k os⟩
theorem fint_any (n : Int) (h0 : -9223372036854775808 ≤ n) (h1 : n ≤ 9223372036854775807) (w : World) (ht : Tab w) :
    Calls Tryd.prog 74 #[.int .i64 n, .int .i64 10] w fun e w' => e = .returned (.string ⟨(Post.sdig n).toArray⟩) ∧ Below w.heap.size w w' :=
  (Tryd.strconv_FormatInt_10 n h0 h1 w ht).mono fun e w' ⟨he, k, os, hw⟩ => ⟨by rw [he, Post.sdig_itoa], by rw [hw]; exact below_grow w k os⟩
theorem gTab : Tryd.prog.globalNamed "internal/strconv.uint64pow10" = some 0 := by kernel_rfl
theorem tTab : (Tryd.prog.globals[0]?).map (·.type) = some 210 := by kernel_rfl
/-- out of the laid list -/
theorem tab_of_laid {W : World} {l : List (String × DataW Unit)} (h : laidMet Tryd.prog l W) (hm : ("internal/strconv.uint64pow10", Rows.laid_internal_strconv_uint64pow10) ∈ l) : Tab W := by
  obtain ⟨g, t, cs, fuel, p, hg, hty, hvar, hd⟩ := Lib.laidMet.reads h hm
  have e : (Rows.laid_internal_strconv_uint64pow10 : DataW Unit) = Lib.tabData .u64 Lib.pow10Tab := by kernel_rfl
  rw [e] at hd
  obtain rfl := Option.some.inj (gTab.symm.trans hg)
  obtain rfl := Option.some.inj (tTab.symm.trans hty)
  unfold Tab Lib.TabIs
  rw [hvar, ← Lib.cells_of_tab Tryd.underlying210 Tryd.underlying22 (by kernel_rfl) (by kernel_rfl) hd]
end Go.Proofs.YtellhmbebimenaaDoor
end
