/- Contract: the reference's text of a letter (couponref20.Text). -/
import Derived.Test.YtellhmbebimenaaDoorLb42
import Derived.Test.YtellhmbebimenaaDoorLb49

set_option linter.unusedVariables false
set_option linter.unusedSimpArgs false
namespace Go.Proofs.YtellhmbebimenaaDoor
open Go.RowKit

set_option maxHeartbeats 1000000 in
theorem mailNames_any (w : World) : Calls Tryd.prog 60 #[] w fun e w' => e = .returned (.slice (some ⟨w.heap.size, 0, none⟩) 5 5) ∧ w'.heap[w.heap.size]? = some (.cells #[.string ⟨#[97, 115, 107]⟩, .string ⟨#[103, 114, 97, 110, 116]⟩, .string ⟨#[100, 101, 110, 121]⟩, .string ⟨#[114, 101, 116, 117, 114, 110]⟩, .string ⟨#[102, 108, 111, 119, 110]⟩] 9 (0, 0)) ∧ Below w.heap.size w w' := by
  have h1 := new_rowW w (.cells #[.string ⟨#[97, 115, 107]⟩, .string ⟨#[103, 114, 97, 110, 116]⟩, .string ⟨#[100, 101, 110, 121]⟩, .string ⟨#[114, 101, 116, 117, 114, 110]⟩, .string ⟨#[102, 108, 111, 119, 110]⟩] 9) _ rfl
  have h2 := (Below.refl w.heap.size w).alloc (Nat.le_refl _) (.cells #[.string ⟨#[97, 115, 107]⟩, .string ⟨#[103, 114, 97, 110, 116]⟩, .string ⟨#[100, 101, 110, 121]⟩, .string ⟨#[114, 101, 116, 117, 114, 110]⟩, .string ⟨#[102, 108, 111, 119, 110]⟩] 9)
  go_enter Tryd.func60, Tryd.ntmps60
  go_wp2
  go_ret
  exact ⟨rfl, h1, h2⟩
theorem mname_at (KN : Nat) (h : KN < 5) : (#[.string ⟨#[97, 115, 107]⟩, .string ⟨#[103, 114, 97, 110, 116]⟩, .string ⟨#[100, 101, 110, 121]⟩, .string ⟨#[114, 101, 116, 117, 114, 110]⟩, .string ⟨#[102, 108, 111, 119, 110]⟩] : Array Value)[KN]? = some (.string ⟨(mName ((KN : Int) + 1)).toArray⟩) := by
  match KN, h with
  | 0, _ => rfl
  | 1, _ => rfl
  | 2, _ => rfl
  | 3, _ => rfl
  | 4, _ => rfl
theorem rd20_any (n : Int) (h0 : 0 ≤ n) (h1 : n ≤ 18446744073709551615) (w : World) :
    Calls Tryd.prog 59 #[.int .u64 n] w fun e w' => e = .returned (.string ⟨(Dec.digits n.toNat).toArray⟩) ∧ Below w.heap.size w w' := by
  have HD := Lib.hid (fun W => rdigits_any n h0 h1 W)
  go_enter Tryd.func59, Tryd.ntmps59
  go_wp2_with (go_at_call 42; refine (HD.out _).mono ?_; rintro e w' ⟨rfl, hb⟩)
  go_ret
  exact ⟨rfl, hb⟩
set_option maxRecDepth 8000 in
set_option maxHeartbeats 8000000 in
theorem rText20_any (x : Lt) (hw : x.wf) (hm : x.may = true) (w : World) :
    Calls Tryd.prog 20 #[.agg #[.int .i64 x.f, .int .i64 x.t, .int .u64 x.n, .int .u64 x.a, .int .i64 x.k, .int .u64 x.tk, .int .i64 x.c, .int .i64 x.d, .int .i64 x.co, .int .i64 x.fl, .int .i64 x.dy, .int .i64 x.va, .int .i64 x.st, .int .i64 x.ho, .int .u64 x.nx]] w fun e w' => e = .returned (.string ⟨(textLt x).toArray⟩) ∧ Below w.heap.size w w' := by
  have F0 := lt_facts hm
  have HFM : Hid (¬ x.n = 0 → MlB x.ml) := Lib.hid (fun h => ml_facts (F0.m h))
  have HTX : Hid (textLt x = if x.n = 0 then tHd x else
    if x.k = 3 then tMl (tHd x) x ++ [32, 101] ++ Dec.digits x.co.toNat else
    if x.k = 2 then (((tMl (tHd x) x ++ [32] ++ Dec.digits x.d.toNat) ++ [32] ++ Dec.digits x.fl.toNat) ++ [64] ++ Dec.digits x.dy.toNat) ++ [61] ++ Dec.digits x.va.toNat else
    tMl (tHd x) x ++ [32] ++ Dec.digits x.d.toNat) := Lib.hid (by unfold textLt; rw [hm]; simp)
  obtain ⟨n0, n1⟩ := hw.n
  obtain ⟨a0, a1⟩ := hw.a
  obtain ⟨k0, k1⟩ := hw.tk
  have hf := F0.f; have htt := F0.t; have hnn := F0.n; have haa := F0.a
  obtain ⟨F, hF⟩ := Int.eq_ofNat_of_zero_le (show 0 ≤ x.f by omega)
  obtain ⟨T, hT⟩ := Int.eq_ofNat_of_zero_le (show 0 ≤ x.t by omega)
  obtain ⟨N, hN⟩ := Int.eq_ofNat_of_zero_le n0
  obtain ⟨A, hA⟩ := Int.eq_ofNat_of_zero_le a0
  obtain ⟨TK, hTK⟩ := Int.eq_ofNat_of_zero_le k0
  unfold tMl tHd at HTX
  have hml : x.ml = ⟨x.k, x.tk, x.c, x.d, x.co, x.fl, x.dy, x.va, x.st, x.ho, x.nx⟩ := rfl
  rw [hml] at HFM
  rw [hF, hT, hN, hA, hTK] at HTX
  rw [hF, hT, hN, hA, hTK]
  rw [hN, hTK] at HFM
  rw [hF] at hf; rw [hT] at htt; rw [hN] at n1 hnn; rw [hA] at a1 haa; rw [hTK] at k1
  simp only [Int.toNat_natCast] at HTX
  generalize textLt x = TX at *
  generalize x.k = KK at *
  generalize x.c = CI at *
  generalize x.d = DD at *
  generalize x.co = CO at *
  generalize x.fl = FL at *
  generalize x.dy = DY at *
  generalize x.va = VA at *
  generalize x.st = st at *
  generalize x.ho = ho at *
  generalize x.nx = nx at *
  clear hml F0 hF hT hN hA hTK hm hw n0 a0 k0
  have z1 : IntKind.u64.wrap (F : Int) = (F : Int) := by rw [IntKind.wrap_u64]; omega
  have z2 : IntKind.u64.wrap (T : Int) = (T : Int) := by rw [IntKind.wrap_u64]; omega
  have HDF := Lib.hid (fun W => rd20_any (F : Int) (by omega) (by omega) W)
  have HDT := Lib.hid (fun W => rd20_any (T : Int) (by omega) (by omega) W)
  have HDN := Lib.hid (fun W => rd20_any (N : Int) (by omega) (by omega) W)
  have HDA := Lib.hid (fun W => rd20_any (A : Int) (by omega) (by omega) W)
  have HD1 := Lib.hid (fun W => rd20_any (TK : Int) (by omega) (by omega) W)
  rw [Int.toNat_natCast] at HDF HDT HDN HDA HD1
  have hs1 : (⟨(Dec.digits F).toArray⟩ : ByteArray).size ≤ 20 := digits_size _ (by omega)
  have hs2 : (⟨(Dec.digits T).toArray⟩ : ByteArray).size ≤ 20 := digits_size _ (by omega)
  have hs3 : (⟨(Dec.digits N).toArray⟩ : ByteArray).size ≤ 20 := digits_size _ (by omega)
  have hs4 : (⟨(Dec.digits A).toArray⟩ : ByteArray).size ≤ 20 := digits_size _ (by omega)
  have hn1 : (⟨(Dec.digits TK).toArray⟩ : ByteArray).size ≤ 20 := digits_size _ (by omega)
  obtain ⟨T4, hT4⟩ : ∃ T4, T4 = ((([] ++ [] ++ Dec.digits F) ++ [62] ++ Dec.digits T) ++ [32, 35] ++ Dec.digits N) ++ [32, 43] ++ Dec.digits A := ⟨_, rfl⟩
  rw [← hT4] at HTX
  have HE4 : Hid (((((((⟨(Dec.digits F).toArray⟩ : ByteArray) ++ ⟨#[62]⟩) ++ ⟨(Dec.digits T).toArray⟩) ++ ⟨#[32, 35]⟩) ++ ⟨(Dec.digits N).toArray⟩) ++ ⟨#[32, 43]⟩) ++ ⟨(Dec.digits A).toArray⟩ = ⟨T4.toArray⟩) := Lib.hid (by
    rw [hT4, show (⟨#[62]⟩ : ByteArray) = ⟨([62] : List UInt8).toArray⟩ from rfl, show (⟨#[32, 35]⟩ : ByteArray) = ⟨([32, 35] : List UInt8).toArray⟩ from rfl, show (⟨#[32, 43]⟩ : ByteArray) = ⟨([32, 43] : List UInt8).toArray⟩ from rfl]
    simp only [app_string, List.nil_append])
  have hs5 : (⟨T4.toArray⟩ : ByteArray).size ≤ 90 := by
    rw [← HE4.out]
    simp only [ByteArray.size_append, show (⟨#[62]⟩ : ByteArray).size = 1 from rfl, show (⟨#[32, 35]⟩ : ByteArray).size = 2 from rfl, show (⟨#[32, 43]⟩ : ByteArray).size = 2 from rfl]
    omega
  clear hT4
  generalize (⟨(Dec.digits F).toArray⟩ : ByteArray) = DF at *
  generalize (⟨(Dec.digits T).toArray⟩ : ByteArray) = DT at *
  generalize (⟨(Dec.digits N).toArray⟩ : ByteArray) = DN at *
  generalize (⟨(Dec.digits A).toArray⟩ : ByteArray) = DA at *
  clear hf htt n1 hnn a1 haa k1
  have HBP := Lib.hid ((Below.refl w.heap.size w).alloc (Nat.le_refl _) (.cells #[.int .i64 (F : Int), .int .i64 (T : Int), .int .u64 (N : Int), .int .u64 (A : Int), .int .i64 KK, .int .u64 (TK : Int), .int .i64 CI, .int .i64 DD, .int .i64 CO, .int .i64 FL, .int .i64 DY, .int .i64 VA, .int .i64 st, .int .i64 ho, .int .u64 nx] 31))
  have HR := Lib.hid (new_rowW w (.cells #[.int .i64 (F : Int), .int .i64 (T : Int), .int .u64 (N : Int), .int .u64 (A : Int), .int .i64 KK, .int .u64 (TK : Int), .int .i64 CI, .int .i64 DD, .int .i64 CO, .int .i64 FL, .int .i64 DY, .int .i64 VA, .int .i64 st, .int .i64 ho, .int .u64 nx] 31) _ rfl)
  go_enter Tryd.func20, Tryd.ntmps20
  go_upto_region 1 with fail
  generalize w.alloc (.cells #[.int .i64 (F : Int), .int .i64 (T : Int), .int .u64 (N : Int), .int .u64 (A : Int), .int .i64 KK, .int .u64 (TK : Int), .int .i64 CI, .int .i64 DD, .int .i64 CO, .int .i64 FL, .int .i64 DY, .int .i64 VA, .int .i64 st, .int .i64 ho, .int .u64 nx] 31) = W0 at *
  have hcu := fun (u : Later W0) (j : Nat) => (u.cell w.heap.size j (block_lt HR.out)).trans (cell_of_row W0 w.heap.size j _ _ _ HR.out)
  refine wp_region_later (by kernel_rfl) (by kernel_rfl) ?_
  repeat (go_big_quiet_step (first | (go_at_call 59; first | with_reducible exact later_call (HDF.out _) | with_reducible exact later_call (HDT.out _) | with_reducible exact later_call (HDN.out _) | with_reducible exact later_call (HDA.out _))))
  refine wpQuiet_nil ?_
  rintro w1 ⟨u, rfl⟩
  have HB := Lib.hid (HBP.out.trans (u.prop.mono HBP.out.size))
  replace HR := Lib.hid ((u.prop.block _ (block_lt HR.out)).trans HR.out)
  clear hcu HBP
  generalize u.val = w1 at *
  rw [HE4.out]
  clear hs1 hs2 hs3 hs4 z1 z2 HE4
  have hcp := fun j => cell_of_row w1 w.heap.size j _ _ _ HR.out
  by_cases h0 : N = 0
  · subst h0
    go_wp2
    go_ret
    exact ⟨ret_string (by rw [HTX.out, if_pos (show ((0 : Nat) : Int) = 0 from rfl)]), HB.out⟩
  · have hn0 : ((N : Int) == 0) = false := by rw [beq_eq_false_iff_ne]; omega
    have HM0 := HFM.out (by omega)
    rw [if_neg (show ¬ (N : Int) = 0 by omega)] at HTX
    obtain ⟨hk, hn, hc, hco, hd, hwf, hz2, hz3, hzc⟩ := HM0
    simp only at hk hn hc hco hd hwf hz2 hz3 hzc
    have HFA : Hid ((KK = 3 → 1 ≤ CO ∧ CO ≤ 17) ∧ (¬ KK = 3 → 0 ≤ DD ∧ DD ≤ 1000000) ∧ (KK = 2 → (1 ≤ FL ∧ FL ≤ 9999) ∧ (0 ≤ DY ∧ DY ≤ 1000000) ∧ (0 ≤ VA ∧ VA ≤ 1000000000000))) := Lib.hid ⟨hco, hd, fun h => by obtain ⟨q1, q2, q3, -⟩ := hwf h; exact ⟨q1, q2, q3⟩⟩
    clear HFM hz2 hz3 hzc hn hco hd hwf
    obtain ⟨CC, rfl⟩ := Int.eq_ofNat_of_zero_le (show 0 ≤ CI by omega)
    obtain ⟨KN, rfl⟩ : ∃ KN : Nat, KK = (KN : Int) + 1 := ⟨(KK - 1).toNat, by omega⟩
    have hK : KN < 5 := by omega
    have HNM := Lib.hid (mname_at KN hK)
    have hmn := mName_len ((KN : Int) + 1)
    have z3 : IntKind.u64.wrap (CC : Int) = (CC : Int) := by rw [IntKind.wrap_u64]; omega
    have HD2 := Lib.hid (fun W => rd20_any (CC : Int) (by omega) (by omega) W)
    rw [Int.toNat_natCast] at HD2
    rw [Int.toNat_natCast] at HTX
    have HNS := Lib.hid mailNames_any
    have hn2 : (⟨(Dec.digits CC).toArray⟩ : ByteArray).size ≤ 20 := digits_size _ (by omega)
    have hn3 : (⟨(mName ((KN : Int) + 1)).toArray⟩ : ByteArray).size ≤ 6 := by rw [size_string]; exact hmn
    obtain ⟨T5, hT5⟩ : ∃ T5, T5 = T4 ++ ([32] ++ mName ((KN : Int) + 1) ++ [32]) ++ Dec.digits TK ++ [47] ++ Dec.digits CC := ⟨_, rfl⟩
    rw [← hT5] at HTX
    have HT5 : Hid (((((((⟨T4.toArray⟩ : ByteArray) ++ ⟨#[32]⟩) ++ ⟨(mName ((KN : Int) + 1)).toArray⟩) ++ ⟨#[32]⟩) ++ ⟨(Dec.digits TK).toArray⟩) ++ ⟨#[47]⟩) ++ ⟨(Dec.digits CC).toArray⟩ = ⟨T5.toArray⟩) := Lib.hid (by
      rw [hT5, show (⟨#[32]⟩ : ByteArray) = ⟨([32] : List UInt8).toArray⟩ from rfl, show (⟨#[47]⟩ : ByteArray) = ⟨([47] : List UInt8).toArray⟩ from rfl]
      simp only [app_string, List.append_assoc])
    have hs6 : (⟨T5.toArray⟩ : ByteArray).size ≤ 150 := by
      rw [← HT5.out]
      simp only [ByteArray.size_append, show (⟨#[32]⟩ : ByteArray).size = 1 from rfl, show (⟨#[47]⟩ : ByteArray).size = 1 from rfl]
      omega
    clear hT5 hmn hc hk
    generalize (⟨(Dec.digits TK).toArray⟩ : ByteArray) = D1 at *
    generalize (⟨(Dec.digits CC).toArray⟩ : ByteArray) = D2 at *
    generalize (⟨(mName ((KN : Int) + 1)).toArray⟩ : ByteArray) = NM at *
    generalize (⟨T4.toArray⟩ : ByteArray) = S4 at *
    obtain ⟨g1, g2⟩ := row_loO 11 4 HR.out (ds := [.int .i64 ((KN : Int) + 1), .int .u64 (TK : Int), .int .i64 (CC : Int), .int .i64 DD, .int .i64 CO, .int .i64 FL, .int .i64 DY, .int .i64 VA, .int .i64 st, .int .i64 ho, .int .u64 nx]) rfl rfl
    go_upto_region 5 with fail
    clear g1 g2 hcp
    have hb4 := (Below.refl w1.heap.size w1).alloc (Nat.le_refl _) (.cells #[.int .i64 ((KN : Int) + 1), .int .u64 (TK : Int), .int .i64 (CC : Int), .int .i64 DD, .int .i64 CO, .int .i64 FL, .int .i64 DY, .int .i64 VA, .int .i64 st, .int .i64 ho, .int .u64 nx] 29)
    have HM := Lib.hid (new_rowW w1 (.cells #[.int .i64 ((KN : Int) + 1), .int .u64 (TK : Int), .int .i64 (CC : Int), .int .i64 DD, .int .i64 CO, .int .i64 FL, .int .i64 DY, .int .i64 VA, .int .i64 st, .int .i64 ho, .int .u64 nx] 29) _ rfl)
    replace HB := Lib.hid (HB.out.trans (hb4.mono HB.out.size))
    clear hb4 HR
    generalize w1.alloc (.cells #[.int .i64 ((KN : Int) + 1), .int .u64 (TK : Int), .int .i64 (CC : Int), .int .i64 DD, .int .i64 CO, .int .i64 FL, .int .i64 DY, .int .i64 VA, .int .i64 st, .int .i64 ho, .int .u64 nx] 29) = w2 at *
    generalize w1.heap.size = g at *
    have b32 : (⟨#[32]⟩ : ByteArray).size = 1 := rfl
    have b47 : (⟨#[47]⟩ : ByteArray).size = 1 := rfl
    have hc1 : ¬ 9223372036854775807 < S4.size + 1 := by omega
    have hc2 : ¬ 9223372036854775807 < S4.size + 1 + NM.size := by omega
    have hc3 : ¬ 9223372036854775807 < S4.size + 1 + NM.size + 1 := by omega
    have hc4 : ¬ 9223372036854775807 < S4.size + 1 + NM.size + 1 + D1.size := by omega
    have hc5 : ¬ 9223372036854775807 < S4.size + 1 + NM.size + 1 + D1.size + 1 := by omega
    have hc6 : ¬ 9223372036854775807 < S4.size + 1 + NM.size + 1 + D1.size + 1 + D2.size := by omega
    clear b32 b47
    have hw1 : IntKind.i64.wrap (KN : Int) = (KN : Int) := by rw [IntKind.wrap_i64]; omega
    have hk0 : (0 : Int) ≤ (KN : Int) := by omega
    have hk5 : (KN : Int) < 5 := by omega
    have hk6 : 0 ≤ (KN : Int) ∧ (KN : Int) < 5 := ⟨hk0, hk5⟩
    refine wp_region_G (C := fun W => (∀ j : Nat, W.cell? ⟨g, j, none⟩ = (#[.int .i64 ((KN : Int) + 1), .int .u64 (TK : Int), .int .i64 (CC : Int), .int .i64 DD, .int .i64 CO, .int .i64 FL, .int .i64 DY, .int .i64 VA, .int .i64 st, .int .i64 ho, .int .u64 nx] : Array Value)[j]?)) (s0 := 20) (by kernel_rfl) ?_
    replace HB := Lib.hid HB.out.drew
    replace HM := Lib.hid (row_drewT HM.out)
    generalize w2.drew = wd at *
    have hHeld := (show (∀ j : Nat, wd.cell? ⟨g, j, none⟩ = (#[.int .i64 ((KN : Int) + 1), .int .u64 (TK : Int), .int .i64 (CC : Int), .int .i64 DD, .int .i64 CO, .int .i64 FL, .int .i64 DY, .int .i64 VA, .int .i64 st, .int .i64 ho, .int .u64 nx] : Array Value)[j]?) from fun j => cell_of_row _ g j _ _ _ HM.out)
    refine cutK (J := ?J1) ?h1 ?k1
    case h1 =>
      intro hJ
      have HJ := Lib.hid hJ
      clear hJ
      have hHeld := (show (∀ j : Nat, wd.cell? ⟨g, j, none⟩ = (#[.int .i64 ((KN : Int) + 1), .int .u64 (TK : Int), .int .i64 (CC : Int), .int .i64 DD, .int .i64 CO, .int .i64 FL, .int .i64 DY, .int .i64 VA, .int .i64 st, .int .i64 ho, .int .u64 nx] : Array Value)[j]?) from fun j => cell_of_row _ g j _ _ _ HM.out)
      refine wpAnyG_takeU (i := 0) (oi := { dst := some 31, op := Op.move (Operand.tmp 3), type := 9, pos := "ref.go:70", after := #[], guard := none }) (v := ?_) rfl (by kernel_rfl) (by kernel_rfl) (by kernel_rfl) (by decide) (fun _ _ _ h => h) (Or.inl ⟨by rfl, ?_⟩) (.inl (by assumption)) ?_
      rotate_left
      · intro w hSw; go_simp; try with_reducible rfl
      try simp only [Act.put, List.setIfInBounds_toArray, List.set_cons_zero, List.set_cons_succ]
      refine wpAnyG_takeU (i := 1) (oi := { dst := some 32, op := Op.binOp BinOp.add 9 (Operand.tmp 31) (Operand.const (Value.string { data := #[32] })) 9, type := 9, pos := "ref.go:70", after := #[{ on := 0, ground := Ground.data }], guard := none }) (v := ?_) rfl (by kernel_rfl) (by kernel_rfl) (by kernel_rfl) (by decide) (fun _ _ _ h => h) (Or.inl ⟨by rfl, ?_⟩) (.inl (by assumption)) ?_
      rotate_left
      · intro w hSw; go_simp; try with_reducible rfl
      try simp only [Act.put, List.setIfInBounds_toArray, List.set_cons_zero, List.set_cons_succ]
      refine wpAnyG_takeU (i := 3) (oi := { dst := some 34, op := Op.fieldAddr 29 (Operand.tmp 4) 0, type := 0, pos := "ref.go:70", after := #[], guard := none }) (v := ?_) rfl (by kernel_rfl) (by kernel_rfl) (by kernel_rfl) (by decide) (fun _ _ _ h => h) (Or.inl ⟨by rfl, ?_⟩) (.inl (by assumption)) ?_
      rotate_left
      · intro w hSw; go_simp; try with_reducible rfl
      try simp only [Act.put, List.setIfInBounds_toArray, List.set_cons_zero, List.set_cons_succ]
      refine wpAnyG_takeM (i := 4) (oi := { dst := some 35, op := Op.load 23 (Operand.tmp 34), type := 23, pos := "ref.go:70", after := #[{ on := 3, ground := Ground.data }], guard := none }) (v := ?_) (ms := [5, 6, 7, 8, 9, 13, 14, 19, 20]) rfl (by kernel_rfl) (by kernel_rfl) (by kernel_rfl) (by kernel_rfl) (by kernel_rfl) (fun _ _ _ h => h) (Or.inl ⟨by rfl, ?_⟩) (by assumption) ?_
      rotate_left
      · intro w hSw; (try (try dsimp only at hSw)); go_simp; try with_reducible rfl
      try simp only [Act.put, List.setIfInBounds_toArray, List.set_cons_zero, List.set_cons_succ]
      refine wpAnyG_takeU (i := 5) (oi := { dst := some 36, op := Op.binOp BinOp.sub 23 (Operand.tmp 35) (Operand.const (Value.int IntKind.i64 1)) 23, type := 23, pos := "ref.go:70", after := #[{ on := 4, ground := Ground.data }], guard := none }) (v := ?_) rfl (by kernel_rfl) (by kernel_rfl) (by kernel_rfl) (by decide) (fun _ _ _ h => h) (Or.inl ⟨by rfl, ?_⟩) (.inl (by assumption)) ?_
      rotate_left
      · intro w hSw; go_simp; try with_reducible rfl
      try simp only [Act.put, List.setIfInBounds_toArray, List.set_cons_zero, List.set_cons_succ]
      refine wpAnyG_takeU (i := 10) (oi := { dst := some 41, op := Op.fieldAddr 29 (Operand.tmp 4) 1, type := 0, pos := "ref.go:70", after := #[], guard := none }) (v := ?_) rfl (by kernel_rfl) (by kernel_rfl) (by kernel_rfl) (by decide) (fun _ _ _ h => h) (Or.inl ⟨by rfl, ?_⟩) (.inl (by assumption)) ?_
      rotate_left
      · intro w hSw; go_simp; try with_reducible rfl
      try simp only [Act.put, List.setIfInBounds_toArray, List.set_cons_zero, List.set_cons_succ]
      refine wpAnyG_takeM (i := 11) (oi := { dst := some 42, op := Op.load 22 (Operand.tmp 41), type := 22, pos := "ref.go:70", after := #[{ on := 10, ground := Ground.data }], guard := none }) (v := ?_) (ms := [12, 13, 14, 18, 19, 20]) rfl (by kernel_rfl) (by kernel_rfl) (by kernel_rfl) (by kernel_rfl) (by kernel_rfl) (fun _ _ _ h => h) (Or.inl ⟨by rfl, ?_⟩) (by assumption) ?_
      rotate_left
      · intro w hSw; (try (try dsimp only at hSw)); go_simp; try with_reducible rfl
      try simp only [Act.put, List.setIfInBounds_toArray, List.set_cons_zero, List.set_cons_succ]
      refine wpAnyG_takeU (i := 15) (oi := { dst := some 46, op := Op.fieldAddr 29 (Operand.tmp 4) 2, type := 0, pos := "ref.go:70", after := #[], guard := none }) (v := ?_) rfl (by kernel_rfl) (by kernel_rfl) (by kernel_rfl) (by decide) (fun _ _ _ h => h) (Or.inl ⟨by rfl, ?_⟩) (.inl (by assumption)) ?_
      rotate_left
      · intro w hSw; go_simp; try with_reducible rfl
      try simp only [Act.put, List.setIfInBounds_toArray, List.set_cons_zero, List.set_cons_succ]
      refine wpAnyG_takeM (i := 16) (oi := { dst := some 47, op := Op.load 3 (Operand.tmp 46), type := 3, pos := "ref.go:70", after := #[{ on := 15, ground := Ground.data }], guard := none }) (v := ?_) (ms := [17, 18, 19, 20]) rfl (by kernel_rfl) (by kernel_rfl) (by kernel_rfl) (by kernel_rfl) (by kernel_rfl) (fun _ _ _ h => h) (Or.inl ⟨by rfl, ?_⟩) (by assumption) ?_
      rotate_left
      · intro w hSw; (try (try dsimp only at hSw)); go_simp; try with_reducible rfl
      try simp only [Act.put, List.setIfInBounds_toArray, List.set_cons_zero, List.set_cons_succ]
      refine wpAnyG_takeU (i := 17) (oi := { dst := some 48, op := Op.convert 3 22 (Operand.tmp 47), type := 22, pos := "ref.go:70", after := #[{ on := 16, ground := Ground.data }], guard := none }) (v := ?_) rfl (by kernel_rfl) (by kernel_rfl) (by kernel_rfl) (by decide) (fun _ _ _ h => h) (Or.inl ⟨by rfl, ?_⟩) (.inl (by assumption)) ?_
      rotate_left
      · intro w hSw; go_simp; try with_reducible rfl
      try simp only [Act.put, List.setIfInBounds_toArray, List.set_cons_zero, List.set_cons_succ]
      refine wpAnyG_one (i := 2) (o := { dst := some 33, op := Op.call { callee := Callee.value (Operand.func 60), args := #[], argTypes := #[] }, type := 62, pos := "ref.go:70", after := #[], guard := none }) (by kernel_rfl) rfl (fun K hK => ?_)
      go_simp
      go_at_call 60
      refine (HNS.out _).mono ?_
      rintro e wr1 ⟨rfl, hrn, hb⟩
      clear hHeld
      replace HM := Lib.hid ((hb.block _ (block_lt HM.out)).trans HM.out)
      replace HB := Lib.hid (HB.out.trans (hb.mono HB.out.size))
      have HN := Lib.hid hrn
      clear hb hrn
      have hHeld := (show (∀ j : Nat, wr1.cell? ⟨g, j, none⟩ = (#[.int .i64 ((KN : Int) + 1), .int .u64 (TK : Int), .int .i64 (CC : Int), .int .i64 DD, .int .i64 CO, .int .i64 FL, .int .i64 DY, .int .i64 VA, .int .i64 st, .int .i64 ho, .int .u64 nx] : Array Value)[j]?) from fun j => cell_of_row _ g j _ _ _ HM.out)
      refine hK.out _ _ (.inl hHeld) ?_
      clear hK K
      try simp only [Act.put, List.setIfInBounds_toArray, List.set_cons_zero, List.set_cons_succ]
      refine wpAnyG_takeU (i := 6) (oi := { dst := some 37, op := Op.indexAddr 62 (Operand.tmp 33) (Operand.tmp 36), type := 0, pos := "ref.go:70", after := #[{ on := 2, ground := Ground.data }, { on := 5, ground := Ground.data }], guard := none }) (v := ?_) rfl (by kernel_rfl) (by kernel_rfl) (by kernel_rfl) (by decide) (fun _ _ _ h => h) (Or.inl ⟨by rfl, ?_⟩) (.inl (by assumption)) ?_
      rotate_left
      · intro w hSw; go_simp; try with_reducible rfl
      try simp only [Act.put, List.setIfInBounds_toArray, List.set_cons_zero, List.set_cons_succ]
      refine wpAnyG_two (i := 7) (oi := { dst := some 38, op := Op.load 9 (Operand.tmp 37), type := 9, pos := "ref.go:70", after := #[{ on := 6, ground := Ground.data }], guard := none }) (j := 12) (oj := { dst := some 43, op := Op.call { callee := Callee.value (Operand.func 59), args := #[Operand.tmp 42], argTypes := #[22] }, type := 9, pos := "ref.go:70", after := #[{ on := 11, ground := Ground.data }, { on := 2, ground := Ground.chain }], guard := none }) (by kernel_rfl) rfl rfl (fun K hK => ?_) (fun K hK => ?_)
      · have hc7 : wr1.cell? ⟨wd.heap.size, KN, none⟩ = some (.string NM) := (cell_of_row _ wd.heap.size KN _ _ _ HN.out).trans HNM.out
        go_simp
        refine hK.out _ _ (.inl hHeld) ?_
        clear hK K
        try simp only [Act.put, List.setIfInBounds_toArray, List.set_cons_zero, List.set_cons_succ]
        clear hc7
        refine wpAnyG_takeU (i := 8) (oi := { dst := some 39, op := Op.binOp BinOp.add 9 (Operand.tmp 32) (Operand.tmp 38) 9, type := 9, pos := "ref.go:70", after := #[{ on := 1, ground := Ground.data }, { on := 7, ground := Ground.data }], guard := none }) (v := ?_) rfl (by kernel_rfl) (by kernel_rfl) (by kernel_rfl) (by decide) (fun _ _ _ h => h) (Or.inl ⟨by rfl, ?_⟩) (.inl (by assumption)) ?_
        rotate_left
        · intro w hSw; go_simp; try with_reducible rfl
        try simp only [Act.put, List.setIfInBounds_toArray, List.set_cons_zero, List.set_cons_succ]
        refine wpAnyG_takeU (i := 9) (oi := { dst := some 40, op := Op.binOp BinOp.add 9 (Operand.tmp 39) (Operand.const (Value.string { data := #[32] })) 9, type := 9, pos := "ref.go:70", after := #[{ on := 8, ground := Ground.data }], guard := none }) (v := ?_) rfl (by kernel_rfl) (by kernel_rfl) (by kernel_rfl) (by decide) (fun _ _ _ h => h) (Or.inl ⟨by rfl, ?_⟩) (.inl (by assumption)) ?_
        rotate_left
        · intro w hSw; go_simp; try with_reducible rfl
        try simp only [Act.put, List.setIfInBounds_toArray, List.set_cons_zero, List.set_cons_succ]
        refine wpAnyG_one (i := 12) (o := { dst := some 43, op := Op.call { callee := Callee.value (Operand.func 59), args := #[Operand.tmp 42], argTypes := #[22] }, type := 9, pos := "ref.go:70", after := #[{ on := 11, ground := Ground.data }, { on := 2, ground := Ground.chain }], guard := none }) (by kernel_rfl) rfl (fun K hK => ?_)
        go_simp
        go_at_call 59
        refine (HD1.out _).mono ?_
        rintro e wr3 ⟨rfl, hb⟩
        clear hHeld
        replace HM := Lib.hid ((hb.block _ (block_lt HM.out)).trans HM.out)
        replace HB := Lib.hid (HB.out.trans (hb.mono HB.out.size))
        replace HN := Lib.hid ((hb.block _ (block_lt HN.out)).trans HN.out)
        clear hb
        have hHeld := (show (∀ j : Nat, wr3.cell? ⟨g, j, none⟩ = (#[.int .i64 ((KN : Int) + 1), .int .u64 (TK : Int), .int .i64 (CC : Int), .int .i64 DD, .int .i64 CO, .int .i64 FL, .int .i64 DY, .int .i64 VA, .int .i64 st, .int .i64 ho, .int .u64 nx] : Array Value)[j]?) from fun j => cell_of_row _ g j _ _ _ HM.out)
        refine hK.out _ _ (.inl hHeld) ?_
        clear hK K
        try simp only [Act.put, List.setIfInBounds_toArray, List.set_cons_zero, List.set_cons_succ]
        refine wpAnyG_takeU (i := 13) (oi := { dst := some 44, op := Op.binOp BinOp.add 9 (Operand.tmp 40) (Operand.tmp 43) 9, type := 9, pos := "ref.go:70", after := #[{ on := 9, ground := Ground.data }, { on := 12, ground := Ground.data }], guard := none }) (v := ?_) rfl (by kernel_rfl) (by kernel_rfl) (by kernel_rfl) (by decide) (fun _ _ _ h => h) (Or.inl ⟨by rfl, ?_⟩) (.inl (by assumption)) ?_
        rotate_left
        · intro w hSw; go_simp; try with_reducible rfl
        try simp only [Act.put, List.setIfInBounds_toArray, List.set_cons_zero, List.set_cons_succ]
        refine wpAnyG_takeU (i := 14) (oi := { dst := some 45, op := Op.binOp BinOp.add 9 (Operand.tmp 44) (Operand.const (Value.string { data := #[47] })) 9, type := 9, pos := "ref.go:70", after := #[{ on := 13, ground := Ground.data }], guard := none }) (v := ?_) rfl (by kernel_rfl) (by kernel_rfl) (by kernel_rfl) (by decide) (fun _ _ _ h => h) (Or.inl ⟨by rfl, ?_⟩) (.inl (by assumption)) ?_
        rotate_left
        · intro w hSw; go_simp; try with_reducible rfl
        try simp only [Act.put, List.setIfInBounds_toArray, List.set_cons_zero, List.set_cons_succ]
        refine wpAnyG_one (i := 18) (o := { dst := some 49, op := Op.call { callee := Callee.value (Operand.func 59), args := #[Operand.tmp 48], argTypes := #[22] }, type := 9, pos := "ref.go:70", after := #[{ on := 17, ground := Ground.data }, { on := 12, ground := Ground.chain }], guard := none }) (by kernel_rfl) rfl (fun K hK => ?_)
        go_simp
        go_at_call 59
        refine (HD2.out _).mono ?_
        rintro e wr4 ⟨rfl, hb⟩
        clear hHeld
        replace HM := Lib.hid ((hb.block _ (block_lt HM.out)).trans HM.out)
        replace HB := Lib.hid (HB.out.trans (hb.mono HB.out.size))
        replace HN := Lib.hid ((hb.block _ (block_lt HN.out)).trans HN.out)
        clear hb
        have hHeld := (show (∀ j : Nat, wr4.cell? ⟨g, j, none⟩ = (#[.int .i64 ((KN : Int) + 1), .int .u64 (TK : Int), .int .i64 (CC : Int), .int .i64 DD, .int .i64 CO, .int .i64 FL, .int .i64 DY, .int .i64 VA, .int .i64 st, .int .i64 ho, .int .u64 nx] : Array Value)[j]?) from fun j => cell_of_row _ g j _ _ _ HM.out)
        refine hK.out _ _ (.inl hHeld) ?_
        clear hK K
        try simp only [Act.put, List.setIfInBounds_toArray, List.set_cons_zero, List.set_cons_succ]
        refine wpAnyG_takeU (i := 19) (oi := { dst := some 50, op := Op.binOp BinOp.add 9 (Operand.tmp 45) (Operand.tmp 49) 9, type := 9, pos := "ref.go:70", after := #[{ on := 14, ground := Ground.data }, { on := 18, ground := Ground.data }], guard := none }) (v := ?_) rfl (by kernel_rfl) (by kernel_rfl) (by kernel_rfl) (by decide) (fun _ _ _ h => h) (Or.inl ⟨by rfl, ?_⟩) (.inl (by assumption)) ?_
        rotate_left
        · intro w hSw; go_simp; try with_reducible rfl
        try simp only [Act.put, List.setIfInBounds_toArray, List.set_cons_zero, List.set_cons_succ]
        clear hHeld
        revert HN
        revert HM
        revert HB
        revert wr4
        exact HJ.out
      · go_simp
        go_at_call 59
        refine (HD1.out _).mono ?_
        rintro e wr5 ⟨rfl, hb⟩
        clear hHeld
        replace HM := Lib.hid ((hb.block _ (block_lt HM.out)).trans HM.out)
        replace HB := Lib.hid (HB.out.trans (hb.mono HB.out.size))
        replace HN := Lib.hid ((hb.block _ (block_lt HN.out)).trans HN.out)
        clear hb
        have hHeld := (show (∀ j : Nat, wr5.cell? ⟨g, j, none⟩ = (#[.int .i64 ((KN : Int) + 1), .int .u64 (TK : Int), .int .i64 (CC : Int), .int .i64 DD, .int .i64 CO, .int .i64 FL, .int .i64 DY, .int .i64 VA, .int .i64 st, .int .i64 ho, .int .u64 nx] : Array Value)[j]?) from fun j => cell_of_row _ g j _ _ _ HM.out)
        refine hK.out _ _ (.inl hHeld) ?_
        clear hK K
        try simp only [Act.put, List.setIfInBounds_toArray, List.set_cons_zero, List.set_cons_succ]
        refine wpAnyG_two (i := 7) (oi := { dst := some 38, op := Op.load 9 (Operand.tmp 37), type := 9, pos := "ref.go:70", after := #[{ on := 6, ground := Ground.data }], guard := none }) (j := 18) (oj := { dst := some 49, op := Op.call { callee := Callee.value (Operand.func 59), args := #[Operand.tmp 48], argTypes := #[22] }, type := 9, pos := "ref.go:70", after := #[{ on := 17, ground := Ground.data }, { on := 12, ground := Ground.chain }], guard := none }) (by kernel_rfl) rfl rfl (fun K hK => ?_) (fun K hK => ?_)
        · have hc7 : wr5.cell? ⟨wd.heap.size, KN, none⟩ = some (.string NM) := (cell_of_row _ wd.heap.size KN _ _ _ HN.out).trans HNM.out
          go_simp
          refine hK.out _ _ (.inl hHeld) ?_
          clear hK K
          try simp only [Act.put, List.setIfInBounds_toArray, List.set_cons_zero, List.set_cons_succ]
          clear hc7
          refine wpAnyG_takeU (i := 8) (oi := { dst := some 39, op := Op.binOp BinOp.add 9 (Operand.tmp 32) (Operand.tmp 38) 9, type := 9, pos := "ref.go:70", after := #[{ on := 1, ground := Ground.data }, { on := 7, ground := Ground.data }], guard := none }) (v := ?_) rfl (by kernel_rfl) (by kernel_rfl) (by kernel_rfl) (by decide) (fun _ _ _ h => h) (Or.inl ⟨by rfl, ?_⟩) (.inl (by assumption)) ?_
          rotate_left
          · intro w hSw; go_simp; try with_reducible rfl
          try simp only [Act.put, List.setIfInBounds_toArray, List.set_cons_zero, List.set_cons_succ]
          refine wpAnyG_takeU (i := 9) (oi := { dst := some 40, op := Op.binOp BinOp.add 9 (Operand.tmp 39) (Operand.const (Value.string { data := #[32] })) 9, type := 9, pos := "ref.go:70", after := #[{ on := 8, ground := Ground.data }], guard := none }) (v := ?_) rfl (by kernel_rfl) (by kernel_rfl) (by kernel_rfl) (by decide) (fun _ _ _ h => h) (Or.inl ⟨by rfl, ?_⟩) (.inl (by assumption)) ?_
          rotate_left
          · intro w hSw; go_simp; try with_reducible rfl
          try simp only [Act.put, List.setIfInBounds_toArray, List.set_cons_zero, List.set_cons_succ]
          refine wpAnyG_takeU (i := 13) (oi := { dst := some 44, op := Op.binOp BinOp.add 9 (Operand.tmp 40) (Operand.tmp 43) 9, type := 9, pos := "ref.go:70", after := #[{ on := 9, ground := Ground.data }, { on := 12, ground := Ground.data }], guard := none }) (v := ?_) rfl (by kernel_rfl) (by kernel_rfl) (by kernel_rfl) (by decide) (fun _ _ _ h => h) (Or.inl ⟨by rfl, ?_⟩) (.inl (by assumption)) ?_
          rotate_left
          · intro w hSw; go_simp; try with_reducible rfl
          try simp only [Act.put, List.setIfInBounds_toArray, List.set_cons_zero, List.set_cons_succ]
          refine wpAnyG_takeU (i := 14) (oi := { dst := some 45, op := Op.binOp BinOp.add 9 (Operand.tmp 44) (Operand.const (Value.string { data := #[47] })) 9, type := 9, pos := "ref.go:70", after := #[{ on := 13, ground := Ground.data }], guard := none }) (v := ?_) rfl (by kernel_rfl) (by kernel_rfl) (by kernel_rfl) (by decide) (fun _ _ _ h => h) (Or.inl ⟨by rfl, ?_⟩) (.inl (by assumption)) ?_
          rotate_left
          · intro w hSw; go_simp; try with_reducible rfl
          try simp only [Act.put, List.setIfInBounds_toArray, List.set_cons_zero, List.set_cons_succ]
          refine wpAnyG_one (i := 18) (o := { dst := some 49, op := Op.call { callee := Callee.value (Operand.func 59), args := #[Operand.tmp 48], argTypes := #[22] }, type := 9, pos := "ref.go:70", after := #[{ on := 17, ground := Ground.data }, { on := 12, ground := Ground.chain }], guard := none }) (by kernel_rfl) rfl (fun K hK => ?_)
          go_simp
          go_at_call 59
          refine (HD2.out _).mono ?_
          rintro e wr7 ⟨rfl, hb⟩
          clear hHeld
          replace HM := Lib.hid ((hb.block _ (block_lt HM.out)).trans HM.out)
          replace HB := Lib.hid (HB.out.trans (hb.mono HB.out.size))
          replace HN := Lib.hid ((hb.block _ (block_lt HN.out)).trans HN.out)
          clear hb
          have hHeld := (show (∀ j : Nat, wr7.cell? ⟨g, j, none⟩ = (#[.int .i64 ((KN : Int) + 1), .int .u64 (TK : Int), .int .i64 (CC : Int), .int .i64 DD, .int .i64 CO, .int .i64 FL, .int .i64 DY, .int .i64 VA, .int .i64 st, .int .i64 ho, .int .u64 nx] : Array Value)[j]?) from fun j => cell_of_row _ g j _ _ _ HM.out)
          refine hK.out _ _ (.inl hHeld) ?_
          clear hK K
          try simp only [Act.put, List.setIfInBounds_toArray, List.set_cons_zero, List.set_cons_succ]
          refine wpAnyG_takeU (i := 19) (oi := { dst := some 50, op := Op.binOp BinOp.add 9 (Operand.tmp 45) (Operand.tmp 49) 9, type := 9, pos := "ref.go:70", after := #[{ on := 14, ground := Ground.data }, { on := 18, ground := Ground.data }], guard := none }) (v := ?_) rfl (by kernel_rfl) (by kernel_rfl) (by kernel_rfl) (by decide) (fun _ _ _ h => h) (Or.inl ⟨by rfl, ?_⟩) (.inl (by assumption)) ?_
          rotate_left
          · intro w hSw; go_simp; try with_reducible rfl
          try simp only [Act.put, List.setIfInBounds_toArray, List.set_cons_zero, List.set_cons_succ]
          clear hHeld
          revert HN
          revert HM
          revert HB
          revert wr7
          exact HJ.out
        · go_simp
          go_at_call 59
          refine (HD2.out _).mono ?_
          rintro e wr8 ⟨rfl, hb⟩
          clear hHeld
          replace HM := Lib.hid ((hb.block _ (block_lt HM.out)).trans HM.out)
          replace HB := Lib.hid (HB.out.trans (hb.mono HB.out.size))
          replace HN := Lib.hid ((hb.block _ (block_lt HN.out)).trans HN.out)
          clear hb
          have hHeld := (show (∀ j : Nat, wr8.cell? ⟨g, j, none⟩ = (#[.int .i64 ((KN : Int) + 1), .int .u64 (TK : Int), .int .i64 (CC : Int), .int .i64 DD, .int .i64 CO, .int .i64 FL, .int .i64 DY, .int .i64 VA, .int .i64 st, .int .i64 ho, .int .u64 nx] : Array Value)[j]?) from fun j => cell_of_row _ g j _ _ _ HM.out)
          refine hK.out _ _ (.inl hHeld) ?_
          clear hK K
          try simp only [Act.put, List.setIfInBounds_toArray, List.set_cons_zero, List.set_cons_succ]
          refine wpAnyG_one (i := 7) (o := { dst := some 38, op := Op.load 9 (Operand.tmp 37), type := 9, pos := "ref.go:70", after := #[{ on := 6, ground := Ground.data }], guard := none }) (by kernel_rfl) rfl (fun K hK => ?_)
          have hc7 : wr8.cell? ⟨wd.heap.size, KN, none⟩ = some (.string NM) := (cell_of_row _ wd.heap.size KN _ _ _ HN.out).trans HNM.out
          go_simp
          refine hK.out _ _ (.inl hHeld) ?_
          clear hK K
          try simp only [Act.put, List.setIfInBounds_toArray, List.set_cons_zero, List.set_cons_succ]
          clear hc7
          refine wpAnyG_takeU (i := 8) (oi := { dst := some 39, op := Op.binOp BinOp.add 9 (Operand.tmp 32) (Operand.tmp 38) 9, type := 9, pos := "ref.go:70", after := #[{ on := 1, ground := Ground.data }, { on := 7, ground := Ground.data }], guard := none }) (v := ?_) rfl (by kernel_rfl) (by kernel_rfl) (by kernel_rfl) (by decide) (fun _ _ _ h => h) (Or.inl ⟨by rfl, ?_⟩) (.inl (by assumption)) ?_
          rotate_left
          · intro w hSw; go_simp; try with_reducible rfl
          try simp only [Act.put, List.setIfInBounds_toArray, List.set_cons_zero, List.set_cons_succ]
          refine wpAnyG_takeU (i := 9) (oi := { dst := some 40, op := Op.binOp BinOp.add 9 (Operand.tmp 39) (Operand.const (Value.string { data := #[32] })) 9, type := 9, pos := "ref.go:70", after := #[{ on := 8, ground := Ground.data }], guard := none }) (v := ?_) rfl (by kernel_rfl) (by kernel_rfl) (by kernel_rfl) (by decide) (fun _ _ _ h => h) (Or.inl ⟨by rfl, ?_⟩) (.inl (by assumption)) ?_
          rotate_left
          · intro w hSw; go_simp; try with_reducible rfl
          try simp only [Act.put, List.setIfInBounds_toArray, List.set_cons_zero, List.set_cons_succ]
          refine wpAnyG_takeU (i := 13) (oi := { dst := some 44, op := Op.binOp BinOp.add 9 (Operand.tmp 40) (Operand.tmp 43) 9, type := 9, pos := "ref.go:70", after := #[{ on := 9, ground := Ground.data }, { on := 12, ground := Ground.data }], guard := none }) (v := ?_) rfl (by kernel_rfl) (by kernel_rfl) (by kernel_rfl) (by decide) (fun _ _ _ h => h) (Or.inl ⟨by rfl, ?_⟩) (.inl (by assumption)) ?_
          rotate_left
          · intro w hSw; go_simp; try with_reducible rfl
          try simp only [Act.put, List.setIfInBounds_toArray, List.set_cons_zero, List.set_cons_succ]
          refine wpAnyG_takeU (i := 14) (oi := { dst := some 45, op := Op.binOp BinOp.add 9 (Operand.tmp 44) (Operand.const (Value.string { data := #[47] })) 9, type := 9, pos := "ref.go:70", after := #[{ on := 13, ground := Ground.data }], guard := none }) (v := ?_) rfl (by kernel_rfl) (by kernel_rfl) (by kernel_rfl) (by decide) (fun _ _ _ h => h) (Or.inl ⟨by rfl, ?_⟩) (.inl (by assumption)) ?_
          rotate_left
          · intro w hSw; go_simp; try with_reducible rfl
          try simp only [Act.put, List.setIfInBounds_toArray, List.set_cons_zero, List.set_cons_succ]
          refine wpAnyG_takeU (i := 19) (oi := { dst := some 50, op := Op.binOp BinOp.add 9 (Operand.tmp 45) (Operand.tmp 49) 9, type := 9, pos := "ref.go:70", after := #[{ on := 14, ground := Ground.data }, { on := 18, ground := Ground.data }], guard := none }) (v := ?_) rfl (by kernel_rfl) (by kernel_rfl) (by kernel_rfl) (by decide) (fun _ _ _ h => h) (Or.inl ⟨by rfl, ?_⟩) (.inl (by assumption)) ?_
          rotate_left
          · intro w hSw; go_simp; try with_reducible rfl
          try simp only [Act.put, List.setIfInBounds_toArray, List.set_cons_zero, List.set_cons_succ]
          clear hHeld
          revert HN
          revert HM
          revert HB
          revert wr8
          exact HJ.out
    case k1 =>
      intro Y HB HM HN
      have hHeld := (show (∀ j : Nat, Y.cell? ⟨g, j, none⟩ = (#[.int .i64 ((KN : Int) + 1), .int .u64 (TK : Int), .int .i64 (CC : Int), .int .i64 DD, .int .i64 CO, .int .i64 FL, .int .i64 DY, .int .i64 VA, .int .i64 st, .int .i64 ho, .int .u64 nx] : Array Value)[j]?) from fun j => cell_of_row _ g j _ _ _ HM.out)
      refine wpAnyG_one (i := 20) (o := { dst := some 3, op := Op.assign (Operand.tmp 50), type := 9, pos := "ref.go:70", after := #[{ on := 19, ground := Ground.data }, { on := 18, ground := Ground.chain }, { on := 0, ground := Ground.phase }, { on := 1, ground := Ground.phase }, { on := 2, ground := Ground.phase }, { on := 3, ground := Ground.phase }, { on := 4, ground := Ground.phase }, { on := 5, ground := Ground.phase }, { on := 6, ground := Ground.phase }, { on := 7, ground := Ground.phase }, { on := 8, ground := Ground.phase }, { on := 9, ground := Ground.phase }, { on := 10, ground := Ground.phase }, { on := 11, ground := Ground.phase }, { on := 12, ground := Ground.phase }, { on := 13, ground := Ground.phase }, { on := 14, ground := Ground.phase }, { on := 15, ground := Ground.phase }, { on := 16, ground := Ground.phase }, { on := 17, ground := Ground.phase }, { on := 18, ground := Ground.phase }, { on := 19, ground := Ground.phase }], guard := none }) (by kernel_rfl) rfl (fun K hK => ?_)
      go_simp
      refine hK.out _ _ (.inr rfl) ?_
      clear hK K
      try simp only [Act.put, List.setIfInBounds_toArray, List.set_cons_zero, List.set_cons_succ]
      refine wpAnyG_done (by kernel_rfl) ?_ _
      clear hHeld
      rw [HT5.out]
      have hcm := fun j => cell_of_row Y g j _ _ _ HM.out
      clear hc1 hc2 hc3 hc4 hc5 hc6 HN hn1 hn2 hn3 hw1 hk0 hk5 hk6
      by_cases h3 : (KN : Int) + 1 = 3
      · have hco := HFA.out.1 h3
        obtain ⟨OO, rfl⟩ := Int.eq_ofNat_of_zero_le (show 0 ≤ CO by omega)
        have zo : IntKind.u64.wrap (OO : Int) = (OO : Int) := by rw [IntKind.wrap_u64]; omega
        have HD := Lib.hid (fun W => rd20_any (OO : Int) (by omega) (by omega) W)
        rw [Int.toNat_natCast] at HD
        have hs1 : (⟨(Dec.digits OO).toArray⟩ : ByteArray).size ≤ 20 := digits_size _ (by omega)
        have HE : Hid ((⟨T5.toArray⟩ : ByteArray) ++ ⟨#[32, 101]⟩ ++ ⟨(Dec.digits OO).toArray⟩ = ⟨TX.toArray⟩) := Lib.hid (by rw [HTX.out, if_pos h3, Int.toNat_natCast, show (⟨#[32, 101]⟩ : ByteArray) = ⟨([32, 101] : List UInt8).toArray⟩ from rfl, app_string, app_string])
        generalize (⟨(Dec.digits OO).toArray⟩ : ByteArray) = DO at *
        generalize (⟨T5.toArray⟩ : ByteArray) = S5 at *
        obtain rfl : KN = 2 := by omega
        clear h3 hco HFA
        go_wp2_with (go_at_call 59; refine (HD.out _).mono ?_; rintro e wn ⟨rfl, hbn⟩)
        go_ret
        exact ⟨ret_string HE.out, HB.out.trans (hbn.mono HB.out.size)⟩
      · have hd := HFA.out.2.1 h3
        obtain ⟨OD, rfl⟩ := Int.eq_ofNat_of_zero_le (show 0 ≤ DD by omega)
        have zd : IntKind.u64.wrap (OD : Int) = (OD : Int) := by rw [IntKind.wrap_u64]; omega
        have HD := Lib.hid (fun W => rd20_any (OD : Int) (by omega) (by omega) W)
        rw [Int.toNat_natCast] at HD
        have hs1 : (⟨(Dec.digits OD).toArray⟩ : ByteArray).size ≤ 20 := digits_size _ (by omega)
        have HE : Hid ((⟨T5.toArray⟩ : ByteArray) ++ ⟨#[32]⟩ ++ ⟨(Dec.digits OD).toArray⟩ = ⟨(T5 ++ [32] ++ Dec.digits OD).toArray⟩) := Lib.hid (by rw [show (⟨#[32]⟩ : ByteArray) = ⟨([32] : List UInt8).toArray⟩ from rfl, app_string, app_string])
        have hs6 : (⟨(T5 ++ [32] ++ Dec.digits OD).toArray⟩ : ByteArray).size ≤ 300 := by rw [← HE.out, ByteArray.size_append, ByteArray.size_append, show (⟨#[32]⟩ : ByteArray).size = 1 from rfl]; omega
        rw [Int.toNat_natCast, if_neg h3] at HTX
        generalize (⟨(Dec.digits OD).toArray⟩ : ByteArray) = DO at *
        generalize (⟨T5.toArray⟩ : ByteArray) = S5 at *
        generalize T5 ++ [32] ++ Dec.digits OD = T6 at *
        have hq3 : ((KN : Int) + 1 == 3) = false := by simpa using h3
        by_cases h2 : (KN : Int) + 1 = 2
        · obtain ⟨F1, F2, F3⟩ := HFA.out.2.2 h2
          obtain ⟨OL, rfl⟩ := Int.eq_ofNat_of_zero_le (show 0 ≤ FL by omega)
          obtain ⟨OY, rfl⟩ := Int.eq_ofNat_of_zero_le (show 0 ≤ DY by omega)
          obtain ⟨OV, rfl⟩ := Int.eq_ofNat_of_zero_le (show 0 ≤ VA by omega)
          have zl : IntKind.u64.wrap (OL : Int) = (OL : Int) := by rw [IntKind.wrap_u64]; omega
          have zy : IntKind.u64.wrap (OY : Int) = (OY : Int) := by rw [IntKind.wrap_u64]; omega
          have zv : IntKind.u64.wrap (OV : Int) = (OV : Int) := by rw [IntKind.wrap_u64]; omega
          have HDL := Lib.hid (fun W => rd20_any (OL : Int) (by omega) (by omega) W)
          have HDY := Lib.hid (fun W => rd20_any (OY : Int) (by omega) (by omega) W)
          have HDV := Lib.hid (fun W => rd20_any (OV : Int) (by omega) (by omega) W)
          rw [Int.toNat_natCast] at HDL HDY HDV
          have hl1 : (⟨(Dec.digits OL).toArray⟩ : ByteArray).size ≤ 20 := digits_size _ (by omega)
          have hl2 : (⟨(Dec.digits OY).toArray⟩ : ByteArray).size ≤ 20 := digits_size _ (by omega)
          have hl3 : (⟨(Dec.digits OV).toArray⟩ : ByteArray).size ≤ 20 := digits_size _ (by omega)
          have HE2 : Hid ((((((⟨T6.toArray⟩ : ByteArray) ++ ⟨#[32]⟩) ++ ⟨(Dec.digits OL).toArray⟩) ++ ⟨#[64]⟩) ++ ⟨(Dec.digits OY).toArray⟩) ++ ⟨#[61]⟩ ++ ⟨(Dec.digits OV).toArray⟩ = ⟨TX.toArray⟩) := Lib.hid (by
            rw [HTX.out, if_pos h2, show (⟨#[32]⟩ : ByteArray) = ⟨([32] : List UInt8).toArray⟩ from rfl, show (⟨#[64]⟩ : ByteArray) = ⟨([64] : List UInt8).toArray⟩ from rfl, show (⟨#[61]⟩ : ByteArray) = ⟨([61] : List UInt8).toArray⟩ from rfl]
            simp only [app_string, Int.toNat_natCast])
          generalize (⟨(Dec.digits OL).toArray⟩ : ByteArray) = DL at *
          generalize (⟨(Dec.digits OY).toArray⟩ : ByteArray) = DYS at *
          generalize (⟨(Dec.digits OV).toArray⟩ : ByteArray) = DV at *
          generalize (⟨T6.toArray⟩ : ByteArray) = S6 at *
          obtain rfl : KN = 1 := by omega
          clear h3 h2 hd HFA F1 F2 F3
          go_wp2_with fail
          refine (HD.out _).mono ?_
          rintro e wn ⟨rfl, hbn⟩
          replace HM := Lib.hid ((hbn.block _ (block_lt HM.out)).trans HM.out)
          replace HB := Lib.hid (HB.out.trans (hbn.mono HB.out.size))
          clear hbn hcm
          have hcm := fun j => cell_of_row wn g j _ _ _ HM.out
          go_upto_region 10 with fail
          rw [HE.out]
          clear hcm
          have hcu := fun (u : Later wn) (j : Nat) => (u.cell g j (block_lt HM.out)).trans (cell_of_row wn g j _ _ _ HM.out)
          refine wp_region_later (by kernel_rfl) (by kernel_rfl) ?_
          repeat (go_big_quiet_step (first | (go_at_call 59; first | with_reducible exact later_call (HDL.out _) | with_reducible exact later_call (HDY.out _) | with_reducible exact later_call (HDV.out _))))
          refine wpQuiet_nil ?_
          rintro wz ⟨u, rfl⟩
          have HBZ := Lib.hid (HB.out.trans (u.prop.mono HB.out.size))
          clear hcu
          generalize u.val = wz at *
          go_wp2
          go_ret
          exact ⟨ret_string HE2.out, HBZ.out⟩
        · have hq2 : ((KN : Int) + 1 == 2) = false := by simpa using h2
          rw [if_neg h2] at HTX
          clear h3 h2 hd HFA
          go_wp2_with fail
          refine (HD.out _).mono ?_
          rintro e wn ⟨rfl, hbn⟩
          replace HM := Lib.hid ((hbn.block _ (block_lt HM.out)).trans HM.out)
          replace HB := Lib.hid (HB.out.trans (hbn.mono HB.out.size))
          clear hbn hcm
          have hcm := fun j => cell_of_row wn g j _ _ _ HM.out
          go_wp2
          go_ret
          exact ⟨ret_string (by rw [HTX.out]; exact HE.out), HB.out⟩
end Go.Proofs.YtellhmbebimenaaDoor
