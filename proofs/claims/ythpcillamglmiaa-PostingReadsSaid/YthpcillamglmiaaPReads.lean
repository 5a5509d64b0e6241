/- PostingReads returns true for all bytes, and leaves the memory that was there as it was. -/
import Derived.Test.YthpcillamglmiaaPReadB
import Derived.Test.YthpcillamglmiaaPReadC
import Derived.Test.YthpcillamglmiaaPReadK
import Derived.Test.YthpcillamglmiaaBytes
import Derived.Deep.RegionWith
set_option linter.unusedVariables false
set_option linter.unusedSimpArgs false
namespace Go.Proofs.Ythpcillamglmiaa
open Go.RowKit

theorem eqPst (x0 x1 x2 x3 x4 x5 x6 x7 x8 x9 : Int) (w : World) : (binOp .eql 30 (.agg #[.int .i64 x0, .int .u64 x1, .int .i64 x2, .int .i64 x3, .int .i64 x4, .int .i64 x5, .int .i64 x6, .int .i64 x7, .int .i64 x8, .int .i64 x9]) (.agg #[.int .i64 x0, .int .u64 x1, .int .i64 x2, .int .i64 x3, .int .i64 x4, .int .i64 x5, .int .i64 x6, .int .i64 x7, .int .i64 x8, .int .i64 x9])).run Try.prog w = .ok (.bool true) w := by
  have hS : Try.prog.underlying 30 = some (.struct (Try.prog.fieldsOf 30)) := by kernel_rfl
  have hp : Try.prog.stoodInHeld 30 = false := by kernel_rfl
  rw [run_eql_struct, show (10000 : Nat) = 9999 + 1 from rfl, run_equalIn_agg w 9999 30 _ _ hS hp]
  simp only [Program.fieldsOf, Try.underlying30]
  go_simp
theorem guardPst (x y : Operand) (xs ys : Array Value) (w : World) : (eqGuard .eql 30 x y (.agg xs) (.agg ys)).run Try.prog w = .ok () w := run_eqGuard_agg w _ _ _ _ _ _ (by kernel_rfl)
end Go.Proofs.Ythpcillamglmiaa
namespace Go.Proofs.Ythpcillamglmiaa.postingReads
open Go.ChangeShapes Go.WideShapes Go.ChangeAt Go.RowKit

set_option maxRecDepth 4000 in
set_option maxHeartbeats 4000000 in
theorem walk (v : Value) (b : List UInt8) (w : World) (hv : BS w v b) :
    Calls Try.prog 6 #[v] w fun e w' => e = .returned (.bool true) ∧ Below w.heap.size w w' := by
  have HV := Lib.hid hv
  obtain ⟨p, cap, rfl, g1, g2, -⟩ := hv
  unfold maxLen at g2
  obtain ⟨m, hm⟩ : ∃ m, b.length = m := ⟨_, rfl⟩
  rw [hm] at HV g1 ⊢
  have HM := Lib.hid hm
  clear hm
  by_cases h300 : 300 < m
  · go_enter Try.func6, Try.ntmps6
    go_wp2_with fail
    refine (known14_any _).mono ?_
    rintro e w1 ⟨rfl, hb1⟩
    go_wp2
    go_ret
    exact ⟨rfl, hb1⟩
  · have HOF := Lib.hid (fun W v h => pOf_any v b (by have := HM.out; omega) W h)
    have HRF := Lib.hid (fun W v h => rOf14_any v b W h)
    have hE := eqPst
    have hG := guardPst
    by_cases hok : b.length = 63 ∧ (pOf b).may = true
    · have hd : (decide (b.length = 63 ∧ (pOf b).may = true)) = true := by simpa using hok
      rw [if_pos hok, if_pos hok] at HOF
      rw [if_pos hok, hd] at HRF
      obtain ⟨T, hT⟩ : ∃ T, vAt b 0 8 = T := ⟨_, rfl⟩
      obtain ⟨S, hS⟩ : ∃ T, vAt b 8 2 = T := ⟨_, rfl⟩
      obtain ⟨D, hD⟩ : ∃ T, vAt b 10 4 = T := ⟨_, rfl⟩
      obtain ⟨K, hK⟩ : ∃ T, vAt b 14 1 = T := ⟨_, rfl⟩
      have lT : T < 18446744073709551616 := by rw [← hT]; exact vAt_lt b 0 8
      have lS : S < 65536 := by rw [← hS]; exact vAt_lt b 8 2
      have lD : D < 4294967296 := by rw [← hD]; exact vAt_lt b 10 4
      have lK : K < 256 := by rw [← hK]; exact vAt_lt b 14 1
      obtain ⟨a0, h0⟩ : ∃ a, wrap64 (vAt b 15 8) = a := ⟨_, rfl⟩
      obtain ⟨a1, h1⟩ : ∃ a, wrap64 (vAt b 23 8) = a := ⟨_, rfl⟩
      obtain ⟨a2, h2⟩ : ∃ a, wrap64 (vAt b 31 8) = a := ⟨_, rfl⟩
      obtain ⟨a3, h3⟩ : ∃ a, wrap64 (vAt b 39 8) = a := ⟨_, rfl⟩
      obtain ⟨a4, h4⟩ : ∃ a, wrap64 (vAt b 47 8) = a := ⟨_, rfl⟩
      obtain ⟨a5, h5⟩ : ∃ a, wrap64 (vAt b 55 8) = a := ⟨_, rfl⟩
      have hpo : pOf b = ⟨D, T, S, K, a0, a1, a2, a3, a4, a5⟩ := by unfold pOf; rw [hT, hS, hD, hK, h0, h1, h2, h3, h4, h5]
      have hrow : (pOf b).cells.toArray = #[.int .i64 (D : Int), .int .u64 (T : Int), .int .i64 (S : Int), .int .i64 (K : Int), .int .i64 a0, .int .i64 a1, .int .i64 a2, .int .i64 a3, .int .i64 a4, .int .i64 a5] := by rw [hpo]; rfl
      have hbytes : (((Wire.be T 8 ++ Wire.be S 2) ++ Wire.be D 4) ++ Wire.be K 1) ++ encA [a0, a1, a2, a3, a4, a5] = b := by
        have h := encP_of hok.1
        rw [hpo] at h
        unfold encP encH at h
        simp only at h
        rw [u64_of T (by omega), u64_of S (by omega), u64_of D (by omega), u64_of K (by omega)] at h
        exact h
      rw [hrow] at HOF HRF
      have HBY := Lib.hid (fun W => rBytes14_any a0 a1 a2 a3 a4 a5 D T S K lD lT lS lK W)
      rw [hbytes, HM.out] at HBY
      clear hd hok hT hS hD hK h0 h1 h2 h3 h4 h5 hpo hrow hbytes lT lS lD lK
      go_enter Try.func6, Try.ntmps6
      go_wp2_with (at_builtin; refine wpList_append_bytes rfl _ _ rfl w.heap.size _ 0 [] rfl (World.ownsRow_nil _ _ _ _) _ b rfl HV.out (by have := HM.out; omega) (Nat.le_refl _) ?_)
      intro v1 w1 hown hg1 hn1 hat1
      rw [HM.out] at hown
      have HB1 : Hid (Below w.heap.size w w1) := Lib.hid ((Below.refl _ _).grown hg1 (Nat.le_refl _) (fun q hq => by cases hq))
      have hown' : w1.ownsRow w.heap.size 5 1 v1 m (bytesV b) := by simpa using hown
      have HO1 := Lib.hid (BS.of_own hown')
      obtain ⟨q1, c1, rfl⟩ := own_form hown'
      clear hown hown' hg1 hn1 hat1
      go_wp2_with fail
      refine (HOF.out w1 _ HO1.out).mono ?_
      rintro e w2 ⟨rfl, hb2⟩
      have HB2 := Lib.hid (HB1.out.trans (hb2.mono HB1.out.size))
      have HO2 := Lib.hid (HO1.out.below hb2)
      clear hb2
      go_wp2_with fail
      have hrp : (w2.alloc (.cells #[.int .i64 (D : Int), .int .u64 (T : Int), .int .i64 (S : Int), .int .i64 (K : Int), .int .i64 a0, .int .i64 a1, .int .i64 a2, .int .i64 a3, .int .i64 a4, .int .i64 a5] 30)).heap[w2.heap.size]? = some (.cells #[.int .i64 (D : Int), .int .u64 (T : Int), .int .i64 (S : Int), .int .i64 (K : Int), .int .i64 a0, .int .i64 a1, .int .i64 a2, .int .i64 a3, .int .i64 a4, .int .i64 a5] 30 (0, 0)) := new_rowW _ _ _ rfl
      have HB3 := Lib.hid (HB2.out.alloc HB2.out.size (.cells #[.int .i64 (D : Int), .int .u64 (T : Int), .int .i64 (S : Int), .int .i64 (K : Int), .int .i64 a0, .int .i64 a1, .int .i64 a2, .int .i64 a3, .int .i64 a4, .int .i64 a5] 30))
      have HO3 := Lib.hid (HO2.out.alloc (.cells #[.int .i64 (D : Int), .int .u64 (T : Int), .int .i64 (S : Int), .int .i64 (K : Int), .int .i64 a0, .int .i64 a1, .int .i64 a2, .int .i64 a3, .int .i64 a4, .int .i64 a5] 30))
      generalize w2.alloc (.cells #[.int .i64 (D : Int), .int .u64 (T : Int), .int .i64 (S : Int), .int .i64 (K : Int), .int .i64 a0, .int .i64 a1, .int .i64 a2, .int .i64 a3, .int .i64 a4, .int .i64 a5] 30) = w3 at *
      generalize w2.heap.size = bp at *
      refine (HRF.out w3 _ (HV.out.below HB3.out)).mono ?_
      rintro e w4 ⟨rfl, hb4⟩
      have hrp4 := row_allocW ((hb4.block bp (block_lt hrp)).trans hrp) (.cells #[.int .i64 (D : Int), .int .u64 (T : Int), .int .i64 (S : Int), .int .i64 (K : Int), .int .i64 a0, .int .i64 a1, .int .i64 a2, .int .i64 a3, .int .i64 a4, .int .i64 a5] 30)
      have hrw4 : (w4.alloc (.cells #[.int .i64 (D : Int), .int .u64 (T : Int), .int .i64 (S : Int), .int .i64 (K : Int), .int .i64 a0, .int .i64 a1, .int .i64 a2, .int .i64 a3, .int .i64 a4, .int .i64 a5] 30)).heap[w4.heap.size]? = some (.cells #[.int .i64 (D : Int), .int .u64 (T : Int), .int .i64 (S : Int), .int .i64 (K : Int), .int .i64 a0, .int .i64 a1, .int .i64 a2, .int .i64 a3, .int .i64 a4, .int .i64 a5] 30 (0, 0)) := new_rowW _ _ _ rfl
      have HB5 := Lib.hid ((HB3.out.trans (hb4.mono HB3.out.size)).alloc (Nat.le_trans HB3.out.size hb4.size) (.cells #[.int .i64 (D : Int), .int .u64 (T : Int), .int .i64 (S : Int), .int .i64 (K : Int), .int .i64 a0, .int .i64 a1, .int .i64 a2, .int .i64 a3, .int .i64 a4, .int .i64 a5] 30))
      have f1 := ((HO3.out.below hb4).alloc (.cells #[.int .i64 (D : Int), .int .u64 (T : Int), .int .i64 (S : Int), .int .i64 (K : Int), .int .i64 a0, .int .i64 a1, .int .i64 a2, .int .i64 a3, .int .i64 a4, .int .i64 a5] 30)).to_string
      have f2 := (HV.out.below HB5.out).to_string
      have hsz : w4.heap.size < (w4.alloc (.cells #[.int .i64 (D : Int), .int .u64 (T : Int), .int .i64 (S : Int), .int .i64 (K : Int), .int .i64 a0, .int .i64 a1, .int .i64 a2, .int .i64 a3, .int .i64 a4, .int .i64 a5] 30)).heap.size := by simp
      have hbp : bp < w4.heap.size := Nat.lt_of_lt_of_le (block_lt hrp) hb4.size
      have hcp := fun j => cell_of_row _ bp j _ _ _ hrp4
      have hcw := fun j => cell_of_row _ w4.heap.size j _ _ _ hrw4
      clear hrp hb4
      have HVZ := Lib.hid (fun W (h : Below w.heap.size w W) => (HV.out.below h).to_string)
      generalize hs0 : (ByteArray.mk b.toArray) = S0 at *
      have HS0 := Lib.hid hs0
      clear hs0
      go_wp2_with fail
      generalize w4.alloc (.cells #[.int .i64 (D : Int), .int .u64 (T : Int), .int .i64 (S : Int), .int .i64 (K : Int), .int .i64 a0, .int .i64 a1, .int .i64 a2, .int .i64 a3, .int .i64 a4, .int .i64 a5] 30) = w5 at *
      generalize w4.heap.size = bw at *
      have hb := HB5.out.drew
      have hrp := hrp4
      have hrw := hrw4
      clear hrp4 hrw4 f1 f2
      have f0 := HVZ.out _ hb
      clear hrp hrw
      go_region_with (first
        | (go_at_call 18; refine (HBY.out _).mono ?_; rintro e w6 ⟨u6, rfl, ho6, hb6⟩; have f6 := (BS.of_own ho6).to_string; rw [HS0.out] at f6; have hb := hb.trans (hb6.mono hb.size); have f7 := HVZ.out _ hb; obtain ⟨q6, c6, rfl⟩ := own_form ho6)
        | (go_at_call 11; refine (known14_any _).mono ?_; rintro e w7 ⟨rfl, hb7⟩; have hb := hb.trans (hb7.mono hb.size)))
      all_goals
        have HF := Lib.hid hb
        clear hb hcp hcw
        go_wp2
        go_ret
        exact ⟨rfl, HF.out⟩
    · have hd : (decide (b.length = 63 ∧ (pOf b).may = true)) = false := by simpa using hok
      rw [if_neg hok, if_neg hok, show zeroP.cells.toArray = (#[.int .i64 0, .int .u64 0, .int .i64 0, .int .i64 0, .int .i64 0, .int .i64 0, .int .i64 0, .int .i64 0, .int .i64 0, .int .i64 0] : Array Value) from rfl] at HOF
      rw [if_neg hok, hd, show zeroP.cells.toArray = (#[.int .i64 0, .int .u64 0, .int .i64 0, .int .i64 0, .int .i64 0, .int .i64 0, .int .i64 0, .int .i64 0, .int .i64 0, .int .i64 0] : Array Value) from rfl] at HRF
      clear hd hok
      go_enter Try.func6, Try.ntmps6
      go_wp2_with (at_builtin; refine wpList_append_bytes rfl _ _ rfl w.heap.size _ 0 [] rfl (World.ownsRow_nil _ _ _ _) _ b rfl HV.out (by have := HM.out; omega) (Nat.le_refl _) ?_)
      intro v1 w1 hown hg1 hn1 hat1
      rw [HM.out] at hown
      have HB1 : Hid (Below w.heap.size w w1) := Lib.hid ((Below.refl _ _).grown hg1 (Nat.le_refl _) (fun q hq => by cases hq))
      have hown' : w1.ownsRow w.heap.size 5 1 v1 m (bytesV b) := by simpa using hown
      have HO1 := Lib.hid (BS.of_own hown')
      obtain ⟨q1, c1, rfl⟩ := own_form hown'
      clear hown hown' hg1 hn1 hat1
      go_wp2_with fail
      refine (HOF.out w1 _ HO1.out).mono ?_
      rintro e w2 ⟨rfl, hb2⟩
      have HB2 := Lib.hid (HB1.out.trans (hb2.mono HB1.out.size))
      have HO2 := Lib.hid (HO1.out.below hb2)
      clear hb2
      go_wp2_with fail
      have hrp : (w2.alloc (.cells #[.int .i64 0, .int .u64 0, .int .i64 0, .int .i64 0, .int .i64 0, .int .i64 0, .int .i64 0, .int .i64 0, .int .i64 0, .int .i64 0] 30)).heap[w2.heap.size]? = some (.cells #[.int .i64 0, .int .u64 0, .int .i64 0, .int .i64 0, .int .i64 0, .int .i64 0, .int .i64 0, .int .i64 0, .int .i64 0, .int .i64 0] 30 (0, 0)) := new_rowW _ _ _ rfl
      have HB3 := Lib.hid (HB2.out.alloc HB2.out.size (.cells #[.int .i64 0, .int .u64 0, .int .i64 0, .int .i64 0, .int .i64 0, .int .i64 0, .int .i64 0, .int .i64 0, .int .i64 0, .int .i64 0] 30))
      have HO3 := Lib.hid (HO2.out.alloc (.cells #[.int .i64 0, .int .u64 0, .int .i64 0, .int .i64 0, .int .i64 0, .int .i64 0, .int .i64 0, .int .i64 0, .int .i64 0, .int .i64 0] 30))
      generalize w2.alloc (.cells #[.int .i64 0, .int .u64 0, .int .i64 0, .int .i64 0, .int .i64 0, .int .i64 0, .int .i64 0, .int .i64 0, .int .i64 0, .int .i64 0] 30) = w3 at *
      generalize w2.heap.size = bp at *
      refine (HRF.out w3 _ (HV.out.below HB3.out)).mono ?_
      rintro e w4 ⟨rfl, hb4⟩
      have hrp4 := row_allocW ((hb4.block bp (block_lt hrp)).trans hrp) (.cells #[.int .i64 0, .int .u64 0, .int .i64 0, .int .i64 0, .int .i64 0, .int .i64 0, .int .i64 0, .int .i64 0, .int .i64 0, .int .i64 0] 30)
      have HB5 := Lib.hid ((HB3.out.trans (hb4.mono HB3.out.size)).alloc (Nat.le_trans HB3.out.size hb4.size) (.cells #[.int .i64 0, .int .u64 0, .int .i64 0, .int .i64 0, .int .i64 0, .int .i64 0, .int .i64 0, .int .i64 0, .int .i64 0, .int .i64 0] 30))
      have f1 := ((HO3.out.below hb4).alloc (.cells #[.int .i64 0, .int .u64 0, .int .i64 0, .int .i64 0, .int .i64 0, .int .i64 0, .int .i64 0, .int .i64 0, .int .i64 0, .int .i64 0] 30)).to_string
      have f2 := (HV.out.below HB5.out).to_string
      have hcp := fun j => cell_of_row _ bp j _ _ _ hrp4
      have hbp : bp < w4.heap.size := Nat.lt_of_lt_of_le (block_lt hrp) hb4.size
      clear hrp hb4
      generalize (ByteArray.mk b.toArray) = S0 at *
      go_wp2_with fail
      refine (known14_any _).mono ?_
      rintro e w7 ⟨rfl, hb7⟩
      have HF := Lib.hid (HB5.out.trans (hb7.mono HB5.out.size))
      clear hb7
      go_wp2
      go_ret
      exact ⟨rfl, HF.out⟩

set_option maxRecDepth 100000 in
theorem lifted (os : Os) (started : os.Started) (H : Type) (enc : TypeId × Value → H) :
    ReturnsInHanded {} Try.checked os 6 .any (Rows.postingReadsSpec.pre6 enc Try.prog Try.f6 Rows.postingReadsRow.domain false) (Rows.postingReadsSpec.post enc Try.prog Try.f6 false true false false) := by
  refine returnsInHanded_of_change (C := Try.checked) own started (by kernel_rfl) Try.func6
    (ChangeSpec.witness6 (enc := enc) (C := Try.checked) false ⟨#[], #[.slice none 0 0], []⟩ 8 (by kernel_rfl) (by kernel_rfl) (by kernel_rfl) (by kernel_rfl)) ?_
  intro W base args ds gs before hval0 hW hcnd _
  have hval : ∀ (j : Nat) t v, Try.f6.params[j]? = some t → args[j]? = some v → Value.okWide Try.prog W .any base t v := hval0
  have hW' := hW
  obtain ⟨p, q, hA0, hV, rfl, hfz, hnd⟩ := hW
  have hA : DataW.TrodAll enc Try.prog W 0 (fun _ => true) true Try.f6.params.toList args.toList ds p := hA0
  rw [Try.params6] at hA hval
  obtain ⟨v0, vs0, d0, ds0, p0, q0, hargs, rfl, rfl, h0, r0⟩ := trodAll_cons hA
  obtain ⟨rfl, rfl, rfl⟩ := trodAll_nil r0
  obtain rfl : args = #[v0] := by cases args; simp_all
  obtain ⟨b, hb⟩ := open_bytes (hval 0 _ v0 rfl rfl) h0
  clear hA0 hval0
  refine (walk v0 b W hb).mono fun e W' ⟨he, hg⟩ => ?_
  subst he
  exact ⟨_, rfl, post_law laidOut rfl hW' ⟨rfl, rfl, rfl⟩ (by kernel_rfl) hg Try.underlying4 rfl⟩

theorem proved : Rows.PostingReadsSaid :=
  OpenClaim.holds_of_wide 6 Try.f6 rfl rfl rfl rfl rfl rfl rfl ⟨rfl, rfl, rfl, rfl, rfl⟩ rfl rfl rfl rfl rfl (by kernel_rfl) Try.func6 (by kernel_rfl)
    (of_decide_eq_true (by kernel_rfl)) (by unfold Func.isWrapper; first | (rw [if_pos (by decide +kernel)]; kernel_rfl) | (rw [if_neg (by decide +kernel)]; exact ⟨rfl, rfl⟩))
    (fun os started H enc _ => lifted os started H enc)
#print axioms proved
end Go.Proofs.Ythpcillamglmiaa.postingReads
