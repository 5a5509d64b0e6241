/- Contract: the mail of bytes, by the reference (couponref16.MailOf). -/
import Derived.Test.YtbmphlpmipkpcaaGreatRma48

set_option linter.unusedVariables false
set_option linter.unusedSimpArgs false
namespace Go.Proofs.YtbmphlpmipkpcaaGreat
open Go.RowKit

theorem loadMlr {w : World} {g : Nat} {cs : Array Value} {e : TypeId} (h : w.heap[g]? = some (.cells cs e (0, 0))) (hs : cs.size = 11) : (loadVar 78 ⟨g, 0, none⟩).run Tryz.prog w = .ok (.agg cs) w := by
  refine run_loadVar_row w g e 78 cs (0, 0) _ h Tryz.underlying78 rfl ?_
  rw [hs]; kernel_rfl
attribute [local go_sem ↓] cpl_execStore ml_execLoad ml_execStore

attribute [local go_sem] cpl_store ml_load ml_store loL_drew okL_drew

set_option maxRecDepth 8000 in
set_option maxHeartbeats 8000000 in
theorem rMailOf_any (v : Value) (b : List UInt8) (w : World) (hv : BS w v b) :
    Calls Tryz.prog 42 #[v] w fun e w' => e = .returned (.tuple #[.agg (mOf b).arr, .bool (okM b)]) ∧ Below w.heap.size w w' := by
  have HMG0 : Hid (mGet b = if rNumV (some b) 1 = 3 then _ else if rNumV (some b) 1 = 2 then _ else _) := Lib.hid rfl
  have HME0 : Hid (mEnd b = if rNumV (some b) 1 = 3 then _ else if rNumV (some b) 1 = 2 then _ else _) := Lib.hid rfl
  obtain ⟨S1, hS1⟩ : ∃ s, rNumS (some b) 1 = s := ⟨_, rfl⟩
  obtain ⟨S2, hS2⟩ : ∃ s, rNumS S1 8 = s := ⟨_, rfl⟩
  obtain ⟨S3, hS3⟩ : ∃ s, rNumS S2 1 = s := ⟨_, rfl⟩
  rw [hS1, hS2, hS3] at HMG0 HME0
  have l1 : rNumV (some b) 1 < 256 ^ 1 := rNumV_lt (some b) 1
  have l2 : rNumV S1 8 < 256 ^ 8 := rNumV_lt S1 8
  have l3 : rNumV S2 1 < 256 ^ 1 := rNumV_lt S2 1
  have l4 : rNumV S3 1 < 256 ^ 1 := rNumV_lt S3 1
  have l5 : rNumV S3 4 < 256 ^ 4 := rNumV_lt S3 4
  have HN1 := Lib.hid (fun W hW => cTake_any w.heap.size (w.heap.size + 1) (some b) 1 W hW)
  have HN2 := Lib.hid (fun W hW => cTake_any w.heap.size (w.heap.size + 1) S1 8 W hW)
  have HN3 := Lib.hid (fun W hW => cTake_any w.heap.size (w.heap.size + 1) S2 1 W hW)
  have HN4 := Lib.hid (fun W hW => cTake_any w.heap.size (w.heap.size + 1) S3 1 W hW)
  have HN5 := Lib.hid (fun W hW => cTake_any w.heap.size (w.heap.size + 1) S3 4 W hW)
  have HTF := Lib.hid (fun W hW hl => takeFlight_any w.heap.size (w.heap.size + 1) (rNumS S3 4) W hW hl)
  have l6 : rNumV (rNumS S3 4) 2 < 256 ^ 2 := rNumV_lt (rNumS S3 4) 2
  have l7 : rNumV (rNumS (rNumS S3 4) 2) 4 < 256 ^ 4 := rNumV_lt (rNumS (rNumS S3 4) 2) 4
  rw [hS1] at HN1
  rw [hS2] at HN2
  rw [hS3] at HN3
  obtain ⟨K, hK⟩ : ∃ n, rNumV (some b) 1 = n := ⟨_, rfl⟩
  obtain ⟨TK, hTK⟩ : ∃ n, rNumV S1 8 = n := ⟨_, rfl⟩
  obtain ⟨CC, hCC⟩ : ∃ n, rNumV S2 1 = n := ⟨_, rfl⟩
  rw [hK] at l1 HN1
  rw [hTK] at l2 HN2
  rw [hCC] at l3 HN3
  rw [hK, hTK, hCC] at HMG0
  rw [hK] at HME0
  have m1 : K < 256 := l1
  have m2 : TK < 18446744073709551616 := l2
  have m3 : CC < 256 := l3
  have HTK : Hid (U64 (TK : Int)) := Lib.hid ⟨by omega, by omega⟩
  have z1 : IntKind.i64.wrap (K : Int) = (K : Int) := by rw [IntKind.wrap_i64]; omega
  have z3 : IntKind.i64.wrap (CC : Int) = (CC : Int) := by rw [IntKind.wrap_i64]; omega
  clear hS1 hS2 hS3 hK hTK hCC l1 l2 l3 m1 m2 m3
  obtain ⟨pv0, cv0, rfl, hc1, hc2, hc3⟩ := id hv
  have hb1 := (Below.refl w.heap.size w).alloc (Nat.le_refl _) (.cells #[.int .i64 0, .int .u64 0, .int .i64 0, .int .i64 0, .int .i64 0, .int .i64 0, .int .i64 0, .int .i64 0, .int .i64 0, .int .i64 0, .int .u64 0] 78)
  have hr1 := new_rowW w (.cells #[.int .i64 0, .int .u64 0, .int .i64 0, .int .i64 0, .int .i64 0, .int .i64 0, .int .i64 0, .int .i64 0, .int .i64 0, .int .i64 0, .int .u64 0] 78) _ rfl
  have hb2 := hb1.alloc hb1.size (.cells #[.slice pv0 b.length cv0, .bool false] 111)
  have hsz : (w.alloc (.cells #[.int .i64 0, .int .u64 0, .int .i64 0, .int .i64 0, .int .i64 0, .int .i64 0, .int .i64 0, .int .i64 0, .int .i64 0, .int .i64 0, .int .u64 0] 78)).heap.size = w.heap.size + 1 := by simp
  have hr2 := new_rowW (w.alloc (.cells #[.int .i64 0, .int .u64 0, .int .i64 0, .int .i64 0, .int .i64 0, .int .i64 0, .int .i64 0, .int .i64 0, .int .i64 0, .int .i64 0, .int .u64 0] 78)) (.cells #[.slice pv0 b.length cv0, .bool false] 111) _ rfl
  have hbb := (Below.refl (w.alloc (.cells #[.int .i64 0, .int .u64 0, .int .i64 0, .int .i64 0, .int .i64 0, .int .i64 0, .int .i64 0, .int .i64 0, .int .i64 0, .int .i64 0, .int .u64 0] 78)).heap.size (w.alloc (.cells #[.int .i64 0, .int .u64 0, .int .i64 0, .int .i64 0, .int .i64 0, .int .i64 0, .int .i64 0, .int .i64 0, .int .i64 0, .int .i64 0, .int .u64 0] 78))).alloc (Nat.le_refl _) (.cells #[.slice pv0 b.length cv0, .bool false] 111)
  have hr3 := (hbb.block _ (block_lt hr1)).trans hr1
  rw [hsz] at hr2
  have HC0 : Hid (IsC ((w.alloc (.cells #[.int .i64 0, .int .u64 0, .int .i64 0, .int .i64 0, .int .i64 0, .int .i64 0, .int .i64 0, .int .i64 0, .int .i64 0, .int .i64 0, .int .u64 0] 78)).alloc (.cells #[.slice pv0 b.length cv0, .bool false] 111)) w.heap.size (w.heap.size + 1) (some b)) := Lib.hid ⟨Nat.le_succ _, .slice pv0 b.length cv0, b, false, hr2, fun W hW => hv.below (hb2.trans hW), rfl⟩
  have HZ0 := Lib.hid hr3
  have HB0 := Lib.hid hb2
  clear hb1 hb2 hr1 hr2 hr3 hbb hsz hv hc1 hc2 hc3
  go_enter Tryz.func42, Tryz.ntmps42
  go_wp2_with fail
  generalize (w.alloc (.cells #[.int .i64 0, .int .u64 0, .int .i64 0, .int .i64 0, .int .i64 0, .int .i64 0, .int .i64 0, .int .i64 0, .int .i64 0, .int .i64 0, .int .u64 0] 78)).alloc (.cells #[.slice pv0 b.length cv0, .bool false] 111) = w0 at *
  refine (HN1.out _ HC0.out).mono ?_
  rintro e w1 ⟨rfl, hs1⟩
  have th8 := there_newT (w := w1) (zs := [.int .i64 0, .int .u64 0, .int .i64 0, .int .i64 0, .int .i64 0, .int .i64 0, .int .i64 0, .int .i64 0, .int .i64 0, .int .i64 0, .int .u64 0]) (e := 78) (n := 11) rfl
  have h8n : ([.int .i64 (K : Int), .int .u64 0, .int .i64 0, .int .i64 0, .int .i64 0, .int .i64 0, .int .i64 0, .int .i64 0, .int .i64 0, .int .i64 0, .int .u64 0] : List Value).length = 11 := rfl
  have h8c : ([.int .i64 (K : Int), .int .u64 0, .int .i64 0, .int .i64 0, .int .i64 0, .int .i64 0, .int .i64 0, .int .i64 0, .int .i64 0, .int .i64 0, .int .u64 0] : List Value).all (·.oneCell') = true := rfl
  have HZ1 := Lib.hid ((hs1.2.1.block _ (block_lt HZ0.out) (by omega)).trans HZ0.out)
  have HB1 := Lib.hid (Only.below HB0.out (Nat.le_succ _) HB0.out.size hs1.2.1)
  have HS1 := Lib.hid hs1
  clear hs1 HC0 HZ0 HB0
  go_upto_region 3 with fail
  have HP := Lib.hid (putRec (W := w1) (e := 78) (zs := [.int .i64 0, .int .u64 0, .int .i64 0, .int .i64 0, .int .i64 0, .int .i64 0, .int .i64 0, .int .i64 0, .int .i64 0, .int .i64 0, .int .u64 0]) (cs := [.int .i64 (K : Int), .int .u64 0, .int .i64 0, .int .i64 0, .int .i64 0, .int .i64 0, .int .i64 0, .int .i64 0, .int .i64 0, .int .i64 0, .int .u64 0]) rfl)
  have HF : Hid (CF 78 #[.int .i64 0, .int .u64 0, .int .i64 0, .int .i64 0, .int .i64 0, .int .i64 0, .int .i64 0, .int .i64 0, .int .i64 0, .int .i64 0, .int .u64 0] w.heap.size w ((w1.alloc (.cells ([.int .i64 0, .int .u64 0, .int .i64 0, .int .i64 0, .int .i64 0, .int .i64 0, .int .i64 0, .int .i64 0, .int .i64 0, .int .i64 0, .int .u64 0] : List Value).toArray 78 (0, 0))).setCells w1.heap.size 0 [.int .i64 (K : Int), .int .u64 0, .int .i64 0, .int .i64 0, .int .i64 0, .int .i64 0, .int .i64 0, .int .i64 0, .int .i64 0, .int .i64 0, .int .u64 0]) (w.heap.size + 1) w1.heap.size w.heap.size S1 #[.int .i64 (K : Int), .int .u64 0, .int .i64 0, .int .i64 0, .int .i64 0, .int .i64 0, .int .i64 0, .int .i64 0, .int .i64 0, .int .i64 0, .int .u64 0]) :=
    Lib.hid ⟨HS1.out.1.below HP.out.2, HP.out.1, (HP.out.2.block _ (block_lt HZ1.out)).trans HZ1.out, by have hz := HB1.out.trans (HP.out.2.mono HB1.out.size); exact ⟨hz.os, hz.tape, hz.output, hz.size, fun k hk _ => hz.block k hk⟩, by have := block_lt HZ1.out; omega, HB1.out.size, Nat.le_refl _, Nat.le_refl _, by decide⟩
  clear HP HS1 HZ1 HB1 th8 h8n h8c
  generalize (w1.alloc (.cells ([.int .i64 0, .int .u64 0, .int .i64 0, .int .i64 0, .int .i64 0, .int .i64 0, .int .i64 0, .int .i64 0, .int .i64 0, .int .i64 0, .int .u64 0] : List Value).toArray 78 (0, 0))).setCells w1.heap.size 0 [.int .i64 (K : Int), .int .u64 0, .int .i64 0, .int .i64 0, .int .i64 0, .int .i64 0, .int .i64 0, .int .i64 0, .int .i64 0, .int .i64 0, .int .u64 0] = w2 at *
  generalize w1.heap.size = gt at *
  go_wp2_with fail
  refine (HN2.out _ HF.out.c).mono ?_
  rintro e w3 ⟨rfl, hs⟩
  replace HF := Lib.hid (HF.out.step hs)
  clear hs
  have hcb := fun j => cell_of_row w3 gt j _ _ _ HF.out.t
  have hfb := fun j => frozen_of_row w3 gt j _ _ HF.out.t
  go_upto_region 4 with fail
  clear hcb hfb
  replace HF := Lib.hid (HF.out.set 1 (.int .u64 (TK : Int)))
  generalize w3.setCell ⟨gt, 1, none⟩ (.int .u64 (TK : Int)) = w4 at *
  replace HF : Hid (CF 78 #[.int .i64 0, .int .u64 0, .int .i64 0, .int .i64 0, .int .i64 0, .int .i64 0, .int .i64 0, .int .i64 0, .int .i64 0, .int .i64 0, .int .u64 0] w.heap.size w w4 (w.heap.size + 1) gt w.heap.size S2 #[.int .i64 (K : Int), .int .u64 (TK : Int), .int .i64 0, .int .i64 0, .int .i64 0, .int .i64 0, .int .i64 0, .int .i64 0, .int .i64 0, .int .i64 0, .int .u64 0]) := Lib.hid HF.out
  go_wp2_with fail
  refine (HN3.out _ HF.out.c).mono ?_
  rintro e w5 ⟨rfl, hs⟩
  replace HF := Lib.hid (HF.out.step hs)
  clear hs
  have hcb := fun j => cell_of_row w5 gt j _ _ _ HF.out.t
  have hfb := fun j => frozen_of_row w5 gt j _ _ HF.out.t
  go_upto_region 5 with fail
  clear hcb hfb
  replace HF := Lib.hid (HF.out.set 2 (.int .i64 (CC : Int)))
  generalize w5.setCell ⟨gt, 2, none⟩ (.int .i64 (CC : Int)) = w6 at *
  replace HF : Hid (CF 78 #[.int .i64 0, .int .u64 0, .int .i64 0, .int .i64 0, .int .i64 0, .int .i64 0, .int .i64 0, .int .i64 0, .int .i64 0, .int .i64 0, .int .u64 0] w.heap.size w w6 (w.heap.size + 1) gt w.heap.size S3 #[.int .i64 (K : Int), .int .u64 (TK : Int), .int .i64 (CC : Int), .int .i64 0, .int .i64 0, .int .i64 0, .int .i64 0, .int .i64 0, .int .i64 0, .int .i64 0, .int .u64 0]) := Lib.hid HF.out
  have hcb := fun j => cell_of_row w6 gt j _ _ _ HF.out.t
  by_cases h3 : K = 3
  · subst h3
    obtain ⟨CO, hCO⟩ : ∃ n, rNumV S3 1 = n := ⟨_, rfl⟩
    obtain ⟨S4, hS4⟩ : ∃ s, rNumS S3 1 = s := ⟨_, rfl⟩
    have HMG : Hid (mGet b = ⟨3, (TK : Int), (CC : Int), 0, (CO : Int), 0, 0, 0, 0, 0, 0⟩) := Lib.hid (by rw [HMG0.out, if_pos rfl, hCO])
    have HME : Hid (mEnd b = S4) := Lib.hid (by rw [HME0.out, if_pos rfl, hS4])
    rw [hCO] at l4
    rw [hCO, hS4] at HN4
    have m4 : CO < 256 := l4
    have z4 : IntKind.i64.wrap (CO : Int) = (CO : Int) := by rw [IntKind.wrap_i64]; omega
    clear hCO hS4 l4 l5 l6 l7 HMG0 HME0 m4
    have hk3 : (((3 : Nat) : Int) == 3) = true := rfl
    go_wp2_with fail
    refine (HN4.out _ HF.out.c).mono ?_
    rintro e w7 ⟨rfl, hs⟩
    replace HF := Lib.hid (HF.out.step hs)
    clear hs
    clear hcb
    have hcb := fun j => cell_of_row w7 gt j _ _ _ HF.out.t
    have hfb := fun j => frozen_of_row w7 gt j _ _ HF.out.t
    go_upto_region 11 with fail
    clear hcb hfb
    replace HF := Lib.hid (HF.out.set 4 (.int .i64 (CO : Int)))
    generalize w7.setCell ⟨gt, 4, none⟩ (.int .i64 (CO : Int)) = w8 at *
    replace HF : Hid (CF 78 #[.int .i64 0, .int .u64 0, .int .i64 0, .int .i64 0, .int .i64 0, .int .i64 0, .int .i64 0, .int .i64 0, .int .i64 0, .int .i64 0, .int .u64 0] w.heap.size w w8 (w.heap.size + 1) gt w.heap.size S4 #[.int .i64 3, .int .u64 (TK : Int), .int .i64 (CC : Int), .int .i64 0, .int .i64 (CO : Int), .int .i64 0, .int .i64 0, .int .i64 0, .int .i64 0, .int .i64 0, .int .u64 0]) := Lib.hid HF.out
    obtain ⟨-, cv, cb, bad, hrow, hbs, hst⟩ := id HF.out.c
    have hv2 := hbs w8 (Below.refl _ _)
    obtain ⟨pv, cc, rfl, hlc, hlb, -⟩ := hv2
    have hlb2 : cb.length ≤ 9223372036854775807 := by unfold maxLen at hlb; omega
    have hcc := fun j => cell_of_row w8 (w.heap.size + 1) j _ _ _ hrow
    clear hrow hbs hlb hlc
    cases bad
    · have hst : mEnd b = some cb := HME.out.trans hst
      by_cases hcb : cb = []
      · subst hcb
        have HST := Lib.hid hst
        clear hst hlb2
        rw [List.length_nil] at hcc
        have HMM := Lib.hid (fun W => rMayMail_any 3 (TK : Int) (CC : Int) 0 (CO : Int) 0 0 0 0 0 0 HTK.out W)
        obtain ⟨mb, hmb⟩ : ∃ q, Ltr.mailB 3 (TK : Int) (CC : Int) 0 (CO : Int) 0 0 0 0 0 0 = q := ⟨_, rfl⟩
        rw [hmb] at HMM
        have HOK : Hid (okM b = mb) := Lib.hid (by unfold okM Ml.may; rw [HST.out, HMG.out, ← hmb]; simp)
        clear hmb
        obtain ⟨f1, f2⟩ := row_loT 11 HF.out.t rfl rfl
        go_wp2_with fail
        clear f1 f2 hcc
        refine (HMM.out _).mono ?_
        rintro e wm ⟨rfl, hbm⟩
        replace HF := Lib.hid (HF.out.belowW hbm)
        clear hbm
        cases mb
        · have HOF : Hid (mOf b = zMl ∧ okM b = false) := Lib.hid ⟨by unfold mOf; rw [if_neg (by rw [HOK.out]; simp)], HOK.out⟩
          have th := there_rowT (n := 11) HF.out.z rfl
          have h1n : ([.int .i64 0, .int .u64 0, .int .i64 0, .int .i64 0, .int .i64 0, .int .i64 0, .int .i64 0, .int .i64 0, .int .i64 0, .int .i64 0, .int .u64 0] : List Value).length = 11 := rfl
          have h1c : ([.int .i64 0, .int .u64 0, .int .i64 0, .int .i64 0, .int .i64 0, .int .i64 0, .int .i64 0, .int .i64 0, .int .i64 0, .int .i64 0, .int .u64 0] : List Value).all (·.oneCell') = true := rfl
          go_wp2_with fail
          have hr6 := setCells_rowT (g := w.heap.size) (cs := [.int .i64 0, .int .u64 0, .int .i64 0, .int .i64 0, .int .i64 0, .int .i64 0, .int .i64 0, .int .i64 0, .int .i64 0, .int .i64 0, .int .u64 0]) HF.out.z rfl
          (try simp only [Exit.inBlock, Exit.then])
          refine bodyPost_ret (results_cellT2 rfl _ _ w.heap.size rfl (loadMlr hr6 rfl)) rfl ?_
          rw [HOF.out.1, HOF.out.2]
          exact ⟨rfl, Only.below (HF.out.below (by omega)) (Nat.le_refl _) HF.out.b.size ((Only.refl w.heap.size _).setCells 0 _)⟩
        · have HOF : Hid (mOf b = ⟨3, (TK : Int), (CC : Int), 0, (CO : Int), 0, 0, 0, 0, 0, 0⟩ ∧ okM b = true) := Lib.hid ⟨by unfold mOf; rw [if_pos HOK.out, HMG.out], HOK.out⟩
          have th := there_rowT (n := 11) HF.out.z rfl
          have h1n : ([.int .i64 3, .int .u64 (TK : Int), .int .i64 (CC : Int), .int .i64 0, .int .i64 (CO : Int), .int .i64 0, .int .i64 0, .int .i64 0, .int .i64 0, .int .i64 0, .int .u64 0] : List Value).length = 11 := rfl
          have h1c : ([.int .i64 3, .int .u64 (TK : Int), .int .i64 (CC : Int), .int .i64 0, .int .i64 (CO : Int), .int .i64 0, .int .i64 0, .int .i64 0, .int .i64 0, .int .i64 0, .int .u64 0] : List Value).all (·.oneCell') = true := rfl
          obtain ⟨f1, f2⟩ := row_loT 11 HF.out.t rfl rfl
          go_wp2_with fail
          have hr6 := setCells_rowT (g := w.heap.size) (cs := [.int .i64 3, .int .u64 (TK : Int), .int .i64 (CC : Int), .int .i64 0, .int .i64 (CO : Int), .int .i64 0, .int .i64 0, .int .i64 0, .int .i64 0, .int .i64 0, .int .u64 0]) HF.out.z rfl
          (try simp only [Exit.inBlock, Exit.then])
          refine bodyPost_ret (results_cellT2 rfl _ _ w.heap.size rfl (loadMlr hr6 rfl)) rfl ?_
          rw [HOF.out.1, HOF.out.2]
          exact ⟨rfl, Only.below (HF.out.below (by omega)) (Nat.le_refl _) HF.out.b.size ((Only.refl w.heap.size _).setCells 0 _)⟩
      · have hgt : 0 < cb.length := List.length_pos_iff.2 hcb
        have HOK : Hid (okM b = false) := Lib.hid (by unfold okM; rw [hst]; simp [hcb])
        have HOF : Hid (mOf b = zMl ∧ okM b = false) := Lib.hid ⟨by unfold mOf; rw [if_neg (by rw [HOK.out]; simp)], HOK.out⟩
        generalize cb.length = cl at *
        clear hst hcb
        have th := there_rowT (n := 11) HF.out.z rfl
        have h1n : ([.int .i64 0, .int .u64 0, .int .i64 0, .int .i64 0, .int .i64 0, .int .i64 0, .int .i64 0, .int .i64 0, .int .i64 0, .int .i64 0, .int .u64 0] : List Value).length = 11 := rfl
        have h1c : ([.int .i64 0, .int .u64 0, .int .i64 0, .int .i64 0, .int .i64 0, .int .i64 0, .int .i64 0, .int .i64 0, .int .i64 0, .int .i64 0, .int .u64 0] : List Value).all (·.oneCell') = true := rfl
        go_wp2_with fail
        have hr6 := setCells_rowT (g := w.heap.size) (cs := [.int .i64 0, .int .u64 0, .int .i64 0, .int .i64 0, .int .i64 0, .int .i64 0, .int .i64 0, .int .i64 0, .int .i64 0, .int .i64 0, .int .u64 0]) HF.out.z rfl
        (try simp only [Exit.inBlock, Exit.then])
        refine bodyPost_ret (results_cellT2 rfl _ _ w.heap.size rfl (loadMlr hr6 rfl)) rfl ?_
        rw [HOF.out.1, HOF.out.2]
        exact ⟨rfl, Only.below (HF.out.below (by omega)) (Nat.le_refl _) HF.out.b.size ((Only.refl w.heap.size _).setCells 0 _)⟩
    · have HST := Lib.hid (show mEnd b = none from HME.out.trans hst)
      have HOK : Hid (okM b = false) := Lib.hid (by unfold okM; rw [HST.out]; simp)
      have HOF : Hid (mOf b = zMl ∧ okM b = false) := Lib.hid ⟨by unfold mOf; rw [if_neg (by rw [HOK.out]; simp)], HOK.out⟩
      clear hst hlb2
      generalize cb.length = cl at *
      have th := there_rowT (n := 11) HF.out.z rfl
      have h1n : ([.int .i64 0, .int .u64 0, .int .i64 0, .int .i64 0, .int .i64 0, .int .i64 0, .int .i64 0, .int .i64 0, .int .i64 0, .int .i64 0, .int .u64 0] : List Value).length = 11 := rfl
      have h1c : ([.int .i64 0, .int .u64 0, .int .i64 0, .int .i64 0, .int .i64 0, .int .i64 0, .int .i64 0, .int .i64 0, .int .i64 0, .int .i64 0, .int .u64 0] : List Value).all (·.oneCell') = true := rfl
      go_wp2_with fail
      have hr6 := setCells_rowT (g := w.heap.size) (cs := [.int .i64 0, .int .u64 0, .int .i64 0, .int .i64 0, .int .i64 0, .int .i64 0, .int .i64 0, .int .i64 0, .int .i64 0, .int .i64 0, .int .u64 0]) HF.out.z rfl
      (try simp only [Exit.inBlock, Exit.then])
      refine bodyPost_ret (results_cellT2 rfl _ _ w.heap.size rfl (loadMlr hr6 rfl)) rfl ?_
      rw [HOF.out.1, HOF.out.2]
      exact ⟨rfl, Only.below (HF.out.below (by omega)) (Nat.le_refl _) HF.out.b.size ((Only.refl w.heap.size _).setCells 0 _)⟩
  · have hk3 : ((K : Int) == 3) = false := by rw [beq_eq_false_iff_ne]; omega
    obtain ⟨DD, hDD⟩ : ∃ n, rNumV S3 4 = n := ⟨_, rfl⟩
    obtain ⟨S4, hS4⟩ : ∃ s, rNumS S3 4 = s := ⟨_, rfl⟩
    rw [if_neg h3, hDD, hS4] at HMG0
    rw [if_neg h3, hS4] at HME0
    rw [hDD] at l5
    rw [hDD, hS4] at HN5
    rw [hS4] at HTF l6 l7
    have m5 : DD < 4294967296 := l5
    have z5 : IntKind.i64.wrap (DD : Int) = (DD : Int) := by rw [IntKind.wrap_i64]; omega
    clear hDD hS4 l4 l5 m5
    go_wp2_with fail
    refine (HN5.out _ HF.out.c).mono ?_
    rintro e w7 ⟨rfl, hs⟩
    replace HF := Lib.hid (HF.out.step hs)
    clear hs
    clear hcb
    have hcb := fun j => cell_of_row w7 gt j _ _ _ HF.out.t
    have hfb := fun j => frozen_of_row w7 gt j _ _ HF.out.t
    go_upto_region 8 with fail
    clear hcb hfb
    replace HF := Lib.hid (HF.out.set 3 (.int .i64 (DD : Int)))
    generalize w7.setCell ⟨gt, 3, none⟩ (.int .i64 (DD : Int)) = w8 at *
    replace HF : Hid (CF 78 #[.int .i64 0, .int .u64 0, .int .i64 0, .int .i64 0, .int .i64 0, .int .i64 0, .int .i64 0, .int .i64 0, .int .i64 0, .int .i64 0, .int .u64 0] w.heap.size w w8 (w.heap.size + 1) gt w.heap.size S4 #[.int .i64 (K : Int), .int .u64 (TK : Int), .int .i64 (CC : Int), .int .i64 (DD : Int), .int .i64 0, .int .i64 0, .int .i64 0, .int .i64 0, .int .i64 0, .int .i64 0, .int .u64 0]) := Lib.hid HF.out
    have hcb := fun j => cell_of_row w8 gt j _ _ _ HF.out.t
    by_cases h2 : K = 2
    · subst h2
      obtain ⟨F1, hF1⟩ : ∃ n, rNumV S4 2 = n := ⟨_, rfl⟩
      obtain ⟨F2, hF2⟩ : ∃ n, rNumV (rNumS S4 2) 4 = n := ⟨_, rfl⟩
      obtain ⟨F3, hF3⟩ : ∃ n, wrap64 (rNumV (rNumS (rNumS S4 2) 4) 8 : Int) = n := ⟨_, rfl⟩
      obtain ⟨S7, hS7⟩ : ∃ s, rNumS (rNumS (rNumS S4 2) 4) 8 = s := ⟨_, rfl⟩
      have HMG : Hid (mGet b = ⟨2, (TK : Int), (CC : Int), (DD : Int), 0, (F1 : Int), (F2 : Int), F3, 1, 0, 0⟩) := Lib.hid (by rw [HMG0.out, if_pos rfl, hF1, hF2, hF3])
      have HME : Hid (mEnd b = S7) := Lib.hid (by rw [HME0.out, if_pos rfl, hS7])
      rw [hF1, hF2, hF3, hS7] at HTF
      clear hF1 hF2 hF3 hS7 HMG0 HME0 l6 l7
      have hk2 : (((2 : Nat) : Int) == 2) = true := rfl
      go_wp2_with fail
      clear hcb
      refine (HTF.out _ HF.out.c HF.out.b.size).mono ?_
      rintro e w9 ⟨rfl, hc9, hg9⟩
      replace HF := Lib.hid (HF.out.grown hg9 hc9)
      clear hc9 hg9
      have tg : w9.there gt 5 6 := there_rowO HF.out.t rfl
      have h9n : ([.int .i64 (F1 : Int), .int .i64 (F2 : Int), .int .i64 F3, .int .i64 0, .int .i64 0, .int .u64 0] : List Value).length = 6 := rfl
      have h9c : ([.int .i64 (F1 : Int), .int .i64 (F2 : Int), .int .i64 F3, .int .i64 0, .int .i64 0, .int .u64 0] : List Value).all (·.oneCell') = true := rfl
      go_upto_region 10 with fail
      clear tg h9n h9c
      replace HF := Lib.hid (HF.out.put 5 [.int .i64 (F1 : Int), .int .i64 (F2 : Int), .int .i64 F3, .int .i64 0, .int .i64 0, .int .u64 0] (setCells_rowP [.int .i64 (F1 : Int), .int .i64 (F2 : Int), .int .i64 F3, .int .i64 0, .int .i64 0, .int .u64 0] [.int .i64 2, .int .u64 (TK : Int), .int .i64 (CC : Int), .int .i64 (DD : Int), .int .i64 0] [.int .i64 0, .int .i64 0, .int .i64 0, .int .i64 0, .int .i64 0, .int .u64 0] w9 HF.out.t rfl))
      generalize w9.setCells gt 5 [.int .i64 (F1 : Int), .int .i64 (F2 : Int), .int .i64 F3, .int .i64 0, .int .i64 0, .int .u64 0] = w10 at *
      replace HF : Hid (CF 78 #[.int .i64 0, .int .u64 0, .int .i64 0, .int .i64 0, .int .i64 0, .int .i64 0, .int .i64 0, .int .i64 0, .int .i64 0, .int .i64 0, .int .u64 0] w.heap.size w w10 (w.heap.size + 1) gt w.heap.size S7 #[.int .i64 2, .int .u64 (TK : Int), .int .i64 (CC : Int), .int .i64 (DD : Int), .int .i64 0, .int .i64 (F1 : Int), .int .i64 (F2 : Int), .int .i64 F3, .int .i64 0, .int .i64 0, .int .u64 0]) := Lib.hid HF.out
      have hcb := fun j => cell_of_row w10 gt j _ _ _ HF.out.t
      have hfb := fun j => frozen_of_row w10 gt j _ _ HF.out.t
      go_upto_region 11 with fail
      clear hcb hfb
      replace HF := Lib.hid (HF.out.set 8 (.int .i64 1))
      generalize w10.setCell ⟨gt, 8, none⟩ (.int .i64 1) = w11 at *
      replace HF : Hid (CF 78 #[.int .i64 0, .int .u64 0, .int .i64 0, .int .i64 0, .int .i64 0, .int .i64 0, .int .i64 0, .int .i64 0, .int .i64 0, .int .i64 0, .int .u64 0] w.heap.size w w11 (w.heap.size + 1) gt w.heap.size S7 #[.int .i64 2, .int .u64 (TK : Int), .int .i64 (CC : Int), .int .i64 (DD : Int), .int .i64 0, .int .i64 (F1 : Int), .int .i64 (F2 : Int), .int .i64 F3, .int .i64 1, .int .i64 0, .int .u64 0]) := Lib.hid HF.out
      obtain ⟨-, cv, cb, bad, hrow, hbs, hst⟩ := id HF.out.c
      have hv2 := hbs w11 (Below.refl _ _)
      obtain ⟨pv, cc, rfl, hlc, hlb, -⟩ := hv2
      have hlb2 : cb.length ≤ 9223372036854775807 := by unfold maxLen at hlb; omega
      have hcc := fun j => cell_of_row w11 (w.heap.size + 1) j _ _ _ hrow
      clear hrow hbs hlb hlc
      cases bad
      · have hst : mEnd b = some cb := HME.out.trans hst
        by_cases hcb : cb = []
        · subst hcb
          have HST := Lib.hid hst
          clear hst hlb2
          rw [List.length_nil] at hcc
          have HMM := Lib.hid (fun W => rMayMail_any 2 (TK : Int) (CC : Int) (DD : Int) 0 (F1 : Int) (F2 : Int) F3 1 0 0 HTK.out W)
          obtain ⟨mb, hmb⟩ : ∃ q, Ltr.mailB 2 (TK : Int) (CC : Int) (DD : Int) 0 (F1 : Int) (F2 : Int) F3 1 0 0 = q := ⟨_, rfl⟩
          rw [hmb] at HMM
          have HOK : Hid (okM b = mb) := Lib.hid (by unfold okM Ml.may; rw [HST.out, HMG.out, ← hmb]; simp)
          clear hmb
          obtain ⟨f1, f2⟩ := row_loT 11 HF.out.t rfl rfl
          go_wp2_with fail
          clear f1 f2 hcc
          refine (HMM.out _).mono ?_
          rintro e wm ⟨rfl, hbm⟩
          replace HF := Lib.hid (HF.out.belowW hbm)
          clear hbm
          cases mb
          · have HOF : Hid (mOf b = zMl ∧ okM b = false) := Lib.hid ⟨by unfold mOf; rw [if_neg (by rw [HOK.out]; simp)], HOK.out⟩
            have th := there_rowT (n := 11) HF.out.z rfl
            have h1n : ([.int .i64 0, .int .u64 0, .int .i64 0, .int .i64 0, .int .i64 0, .int .i64 0, .int .i64 0, .int .i64 0, .int .i64 0, .int .i64 0, .int .u64 0] : List Value).length = 11 := rfl
            have h1c : ([.int .i64 0, .int .u64 0, .int .i64 0, .int .i64 0, .int .i64 0, .int .i64 0, .int .i64 0, .int .i64 0, .int .i64 0, .int .i64 0, .int .u64 0] : List Value).all (·.oneCell') = true := rfl
            go_wp2_with fail
            have hr6 := setCells_rowT (g := w.heap.size) (cs := [.int .i64 0, .int .u64 0, .int .i64 0, .int .i64 0, .int .i64 0, .int .i64 0, .int .i64 0, .int .i64 0, .int .i64 0, .int .i64 0, .int .u64 0]) HF.out.z rfl
            (try simp only [Exit.inBlock, Exit.then])
            refine bodyPost_ret (results_cellT2 rfl _ _ w.heap.size rfl (loadMlr hr6 rfl)) rfl ?_
            rw [HOF.out.1, HOF.out.2]
            exact ⟨rfl, Only.below (HF.out.below (by omega)) (Nat.le_refl _) HF.out.b.size ((Only.refl w.heap.size _).setCells 0 _)⟩
          · have HOF : Hid (mOf b = ⟨2, (TK : Int), (CC : Int), (DD : Int), 0, (F1 : Int), (F2 : Int), F3, 1, 0, 0⟩ ∧ okM b = true) := Lib.hid ⟨by unfold mOf; rw [if_pos HOK.out, HMG.out], HOK.out⟩
            have th := there_rowT (n := 11) HF.out.z rfl
            have h1n : ([.int .i64 2, .int .u64 (TK : Int), .int .i64 (CC : Int), .int .i64 (DD : Int), .int .i64 0, .int .i64 (F1 : Int), .int .i64 (F2 : Int), .int .i64 F3, .int .i64 1, .int .i64 0, .int .u64 0] : List Value).length = 11 := rfl
            have h1c : ([.int .i64 2, .int .u64 (TK : Int), .int .i64 (CC : Int), .int .i64 (DD : Int), .int .i64 0, .int .i64 (F1 : Int), .int .i64 (F2 : Int), .int .i64 F3, .int .i64 1, .int .i64 0, .int .u64 0] : List Value).all (·.oneCell') = true := rfl
            obtain ⟨f1, f2⟩ := row_loT 11 HF.out.t rfl rfl
            go_wp2_with fail
            have hr6 := setCells_rowT (g := w.heap.size) (cs := [.int .i64 2, .int .u64 (TK : Int), .int .i64 (CC : Int), .int .i64 (DD : Int), .int .i64 0, .int .i64 (F1 : Int), .int .i64 (F2 : Int), .int .i64 F3, .int .i64 1, .int .i64 0, .int .u64 0]) HF.out.z rfl
            (try simp only [Exit.inBlock, Exit.then])
            refine bodyPost_ret (results_cellT2 rfl _ _ w.heap.size rfl (loadMlr hr6 rfl)) rfl ?_
            rw [HOF.out.1, HOF.out.2]
            exact ⟨rfl, Only.below (HF.out.below (by omega)) (Nat.le_refl _) HF.out.b.size ((Only.refl w.heap.size _).setCells 0 _)⟩
        · have hgt : 0 < cb.length := List.length_pos_iff.2 hcb
          have HOK : Hid (okM b = false) := Lib.hid (by unfold okM; rw [hst]; simp [hcb])
          have HOF : Hid (mOf b = zMl ∧ okM b = false) := Lib.hid ⟨by unfold mOf; rw [if_neg (by rw [HOK.out]; simp)], HOK.out⟩
          generalize cb.length = cl at *
          clear hst hcb
          have th := there_rowT (n := 11) HF.out.z rfl
          have h1n : ([.int .i64 0, .int .u64 0, .int .i64 0, .int .i64 0, .int .i64 0, .int .i64 0, .int .i64 0, .int .i64 0, .int .i64 0, .int .i64 0, .int .u64 0] : List Value).length = 11 := rfl
          have h1c : ([.int .i64 0, .int .u64 0, .int .i64 0, .int .i64 0, .int .i64 0, .int .i64 0, .int .i64 0, .int .i64 0, .int .i64 0, .int .i64 0, .int .u64 0] : List Value).all (·.oneCell') = true := rfl
          go_wp2_with fail
          have hr6 := setCells_rowT (g := w.heap.size) (cs := [.int .i64 0, .int .u64 0, .int .i64 0, .int .i64 0, .int .i64 0, .int .i64 0, .int .i64 0, .int .i64 0, .int .i64 0, .int .i64 0, .int .u64 0]) HF.out.z rfl
          (try simp only [Exit.inBlock, Exit.then])
          refine bodyPost_ret (results_cellT2 rfl _ _ w.heap.size rfl (loadMlr hr6 rfl)) rfl ?_
          rw [HOF.out.1, HOF.out.2]
          exact ⟨rfl, Only.below (HF.out.below (by omega)) (Nat.le_refl _) HF.out.b.size ((Only.refl w.heap.size _).setCells 0 _)⟩
      · have HST := Lib.hid (show mEnd b = none from HME.out.trans hst)
        have HOK : Hid (okM b = false) := Lib.hid (by unfold okM; rw [HST.out]; simp)
        have HOF : Hid (mOf b = zMl ∧ okM b = false) := Lib.hid ⟨by unfold mOf; rw [if_neg (by rw [HOK.out]; simp)], HOK.out⟩
        clear hst hlb2
        generalize cb.length = cl at *
        have th := there_rowT (n := 11) HF.out.z rfl
        have h1n : ([.int .i64 0, .int .u64 0, .int .i64 0, .int .i64 0, .int .i64 0, .int .i64 0, .int .i64 0, .int .i64 0, .int .i64 0, .int .i64 0, .int .u64 0] : List Value).length = 11 := rfl
        have h1c : ([.int .i64 0, .int .u64 0, .int .i64 0, .int .i64 0, .int .i64 0, .int .i64 0, .int .i64 0, .int .i64 0, .int .i64 0, .int .i64 0, .int .u64 0] : List Value).all (·.oneCell') = true := rfl
        go_wp2_with fail
        have hr6 := setCells_rowT (g := w.heap.size) (cs := [.int .i64 0, .int .u64 0, .int .i64 0, .int .i64 0, .int .i64 0, .int .i64 0, .int .i64 0, .int .i64 0, .int .i64 0, .int .i64 0, .int .u64 0]) HF.out.z rfl
        (try simp only [Exit.inBlock, Exit.then])
        refine bodyPost_ret (results_cellT2 rfl _ _ w.heap.size rfl (loadMlr hr6 rfl)) rfl ?_
        rw [HOF.out.1, HOF.out.2]
        exact ⟨rfl, Only.below (HF.out.below (by omega)) (Nat.le_refl _) HF.out.b.size ((Only.refl w.heap.size _).setCells 0 _)⟩
    · have hk2 : ((K : Int) == 2) = false := by rw [beq_eq_false_iff_ne]; omega
      have HMG : Hid (mGet b = ⟨(K : Int), (TK : Int), (CC : Int), (DD : Int), 0, 0, 0, 0, 0, 0, 0⟩) := Lib.hid (by rw [HMG0.out, if_neg h2])
      have HME : Hid (mEnd b = S4) := Lib.hid (by rw [HME0.out, if_neg h2])
      clear HMG0 HME0 l6 l7 HTF h2 h3
      go_upto_region 11 with fail
      clear hcb
      obtain ⟨-, cv, cb, bad, hrow, hbs, hst⟩ := id HF.out.c
      have hv2 := hbs w8 (Below.refl _ _)
      obtain ⟨pv, cc, rfl, hlc, hlb, -⟩ := hv2
      have hlb2 : cb.length ≤ 9223372036854775807 := by unfold maxLen at hlb; omega
      have hcc := fun j => cell_of_row w8 (w.heap.size + 1) j _ _ _ hrow
      clear hrow hbs hlb hlc
      cases bad
      · have hst : mEnd b = some cb := HME.out.trans hst
        by_cases hcb : cb = []
        · subst hcb
          have HST := Lib.hid hst
          clear hst hlb2
          rw [List.length_nil] at hcc
          have HMM := Lib.hid (fun W => rMayMail_any (K : Int) (TK : Int) (CC : Int) (DD : Int) 0 0 0 0 0 0 0 HTK.out W)
          obtain ⟨mb, hmb⟩ : ∃ q, Ltr.mailB (K : Int) (TK : Int) (CC : Int) (DD : Int) 0 0 0 0 0 0 0 = q := ⟨_, rfl⟩
          rw [hmb] at HMM
          have HOK : Hid (okM b = mb) := Lib.hid (by unfold okM Ml.may; rw [HST.out, HMG.out, ← hmb]; simp)
          clear hmb
          obtain ⟨f1, f2⟩ := row_loT 11 HF.out.t rfl rfl
          go_wp2_with fail
          clear f1 f2 hcc
          refine (HMM.out _).mono ?_
          rintro e wm ⟨rfl, hbm⟩
          replace HF := Lib.hid (HF.out.belowW hbm)
          clear hbm
          cases mb
          · have HOF : Hid (mOf b = zMl ∧ okM b = false) := Lib.hid ⟨by unfold mOf; rw [if_neg (by rw [HOK.out]; simp)], HOK.out⟩
            have th := there_rowT (n := 11) HF.out.z rfl
            have h1n : ([.int .i64 0, .int .u64 0, .int .i64 0, .int .i64 0, .int .i64 0, .int .i64 0, .int .i64 0, .int .i64 0, .int .i64 0, .int .i64 0, .int .u64 0] : List Value).length = 11 := rfl
            have h1c : ([.int .i64 0, .int .u64 0, .int .i64 0, .int .i64 0, .int .i64 0, .int .i64 0, .int .i64 0, .int .i64 0, .int .i64 0, .int .i64 0, .int .u64 0] : List Value).all (·.oneCell') = true := rfl
            go_wp2_with fail
            have hr6 := setCells_rowT (g := w.heap.size) (cs := [.int .i64 0, .int .u64 0, .int .i64 0, .int .i64 0, .int .i64 0, .int .i64 0, .int .i64 0, .int .i64 0, .int .i64 0, .int .i64 0, .int .u64 0]) HF.out.z rfl
            (try simp only [Exit.inBlock, Exit.then])
            refine bodyPost_ret (results_cellT2 rfl _ _ w.heap.size rfl (loadMlr hr6 rfl)) rfl ?_
            rw [HOF.out.1, HOF.out.2]
            exact ⟨rfl, Only.below (HF.out.below (by omega)) (Nat.le_refl _) HF.out.b.size ((Only.refl w.heap.size _).setCells 0 _)⟩
          · have HOF : Hid (mOf b = ⟨(K : Int), (TK : Int), (CC : Int), (DD : Int), 0, 0, 0, 0, 0, 0, 0⟩ ∧ okM b = true) := Lib.hid ⟨by unfold mOf; rw [if_pos HOK.out, HMG.out], HOK.out⟩
            have th := there_rowT (n := 11) HF.out.z rfl
            have h1n : ([.int .i64 (K : Int), .int .u64 (TK : Int), .int .i64 (CC : Int), .int .i64 (DD : Int), .int .i64 0, .int .i64 0, .int .i64 0, .int .i64 0, .int .i64 0, .int .i64 0, .int .u64 0] : List Value).length = 11 := rfl
            have h1c : ([.int .i64 (K : Int), .int .u64 (TK : Int), .int .i64 (CC : Int), .int .i64 (DD : Int), .int .i64 0, .int .i64 0, .int .i64 0, .int .i64 0, .int .i64 0, .int .i64 0, .int .u64 0] : List Value).all (·.oneCell') = true := rfl
            obtain ⟨f1, f2⟩ := row_loT 11 HF.out.t rfl rfl
            go_wp2_with fail
            have hr6 := setCells_rowT (g := w.heap.size) (cs := [.int .i64 (K : Int), .int .u64 (TK : Int), .int .i64 (CC : Int), .int .i64 (DD : Int), .int .i64 0, .int .i64 0, .int .i64 0, .int .i64 0, .int .i64 0, .int .i64 0, .int .u64 0]) HF.out.z rfl
            (try simp only [Exit.inBlock, Exit.then])
            refine bodyPost_ret (results_cellT2 rfl _ _ w.heap.size rfl (loadMlr hr6 rfl)) rfl ?_
            rw [HOF.out.1, HOF.out.2]
            exact ⟨rfl, Only.below (HF.out.below (by omega)) (Nat.le_refl _) HF.out.b.size ((Only.refl w.heap.size _).setCells 0 _)⟩
        · have hgt : 0 < cb.length := List.length_pos_iff.2 hcb
          have HOK : Hid (okM b = false) := Lib.hid (by unfold okM; rw [hst]; simp [hcb])
          have HOF : Hid (mOf b = zMl ∧ okM b = false) := Lib.hid ⟨by unfold mOf; rw [if_neg (by rw [HOK.out]; simp)], HOK.out⟩
          generalize cb.length = cl at *
          clear hst hcb
          have th := there_rowT (n := 11) HF.out.z rfl
          have h1n : ([.int .i64 0, .int .u64 0, .int .i64 0, .int .i64 0, .int .i64 0, .int .i64 0, .int .i64 0, .int .i64 0, .int .i64 0, .int .i64 0, .int .u64 0] : List Value).length = 11 := rfl
          have h1c : ([.int .i64 0, .int .u64 0, .int .i64 0, .int .i64 0, .int .i64 0, .int .i64 0, .int .i64 0, .int .i64 0, .int .i64 0, .int .i64 0, .int .u64 0] : List Value).all (·.oneCell') = true := rfl
          go_wp2_with fail
          have hr6 := setCells_rowT (g := w.heap.size) (cs := [.int .i64 0, .int .u64 0, .int .i64 0, .int .i64 0, .int .i64 0, .int .i64 0, .int .i64 0, .int .i64 0, .int .i64 0, .int .i64 0, .int .u64 0]) HF.out.z rfl
          (try simp only [Exit.inBlock, Exit.then])
          refine bodyPost_ret (results_cellT2 rfl _ _ w.heap.size rfl (loadMlr hr6 rfl)) rfl ?_
          rw [HOF.out.1, HOF.out.2]
          exact ⟨rfl, Only.below (HF.out.below (by omega)) (Nat.le_refl _) HF.out.b.size ((Only.refl w.heap.size _).setCells 0 _)⟩
      · have HST := Lib.hid (show mEnd b = none from HME.out.trans hst)
        have HOK : Hid (okM b = false) := Lib.hid (by unfold okM; rw [HST.out]; simp)
        have HOF : Hid (mOf b = zMl ∧ okM b = false) := Lib.hid ⟨by unfold mOf; rw [if_neg (by rw [HOK.out]; simp)], HOK.out⟩
        clear hst hlb2
        generalize cb.length = cl at *
        have th := there_rowT (n := 11) HF.out.z rfl
        have h1n : ([.int .i64 0, .int .u64 0, .int .i64 0, .int .i64 0, .int .i64 0, .int .i64 0, .int .i64 0, .int .i64 0, .int .i64 0, .int .i64 0, .int .u64 0] : List Value).length = 11 := rfl
        have h1c : ([.int .i64 0, .int .u64 0, .int .i64 0, .int .i64 0, .int .i64 0, .int .i64 0, .int .i64 0, .int .i64 0, .int .i64 0, .int .i64 0, .int .u64 0] : List Value).all (·.oneCell') = true := rfl
        go_wp2_with fail
        have hr6 := setCells_rowT (g := w.heap.size) (cs := [.int .i64 0, .int .u64 0, .int .i64 0, .int .i64 0, .int .i64 0, .int .i64 0, .int .i64 0, .int .i64 0, .int .i64 0, .int .i64 0, .int .u64 0]) HF.out.z rfl
        (try simp only [Exit.inBlock, Exit.then])
        refine bodyPost_ret (results_cellT2 rfl _ _ w.heap.size rfl (loadMlr hr6 rfl)) rfl ?_
        rw [HOF.out.1, HOF.out.2]
        exact ⟨rfl, Only.below (HF.out.below (by omega)) (Nat.le_refl _) HF.out.b.size ((Only.refl w.heap.size _).setCells 0 _)⟩
end Go.Proofs.YtbmphlpmipkpcaaGreat
