/- Contract of the wire reference's Take. -/
import Derived.Test.YtfpcpnjegbmdbaaRefC
set_option linter.unusedVariables false
set_option linter.unusedSimpArgs false
namespace Go.Proofs.Ytfpcpnjegbmdbaa
open Go.RowKit

/-- how long the number is that a kind takes off ahead -/
def tSize (k s : Int) : Int := if k = 1 then s else if k = 2 then 8 else if k = 3 then 1 else if k = 5 ∨ k = 6 then 4 else 2
/-- what is taken off: a number, bytes, and what is left -/
def tTake (l : List UInt8) (k s : Int) : Option (Nat × List UInt8 × List UInt8) :=
  if k = 4 then (tCut l s).map fun p => (0, p.1, p.2)
  else (tNum l (tSize k s)).bind fun q =>
    if (k = 3 ∧ q.1 > 1) ∨ ((k = 5 ∨ k = 6) ∧ q.1 > 16777216) then none
    else if k = 5 ∨ k = 6 then (tCut q.2 (q.1 : Int)).map fun p => (0, p.1, p.2)
    else some (q.1, [], q.2)
def takeN (l : List UInt8) (k s : Int) : Nat := ((tTake l k s).map Prod.fst).getD 0
def takeX (l : List UInt8) (k s : Int) : List UInt8 := ((tTake l k s).map fun p => p.2.1).getD []
def takeY (l : List UInt8) (k s : Int) : List UInt8 := ((tTake l k s).map fun p => p.2.2).getD []
theorem results_tmp4 {fn : Func} {t u v x : Tmp} (h : fn.results = #[.tmp t, .tmp u, .tmp v, .tmp x]) (tmps : Array Value) (P : Program) (w : World) :
    (results fn tmps).run P w = .ok (.tuple #[tmps.getD t undef, tmps.getD u undef, tmps.getD v undef, tmps.getD x undef]) w := by
  simp [results, h]

theorem tNum_lt {l r : List UInt8} {n : Nat} {s : Int} (h : tNum l s = some (n, r)) : n < 18446744073709551616 := by
  have h1 := (rNum_t l s).2
  have h2 : numV l s = n := by unfold numV; rw [h]; rfl
  rw [h2] at h1
  rw [← h1]
  unfold rNumV
  split
  · rename_i hs
    unfold rSize at hs
    simp only [Bool.or_eq_true, beq_iff_eq] at hs
    obtain ⟨k, rfl⟩ := Int.eq_ofNat_of_zero_le (show 0 ≤ s by omega)
    have h3 := beVal_lt _ (rBy (some l) (k : Int)) rfl
    have h4 : 256 ^ (rBy (some l) (k : Int)).length ≤ 256 ^ 8 := Nat.pow_le_pow_right (by decide) (Nat.le_trans (rBy_le _ _) (by omega))
    omega
  · decide

set_option maxRecDepth 4000 in
set_option maxHeartbeats 1000000 in
theorem rTakeRef_any (v : Value) (b : List UInt8) (k : Int) (k1 : 1 ≤ k) (k7 : k ≤ 7) (s : Int) (w : World) (hv : BS w v b) :
    Calls Try.prog 34 #[v, .int .i64 k, .int .i64 s] w fun e w' => ∃ x y, e = .returned (.tuple #[.int .u64 (takeN b k s : Int), x, y, .bool (tTake b k s).isSome]) ∧ (∀ w0, BS w0 v b → BS w0 x (takeX b k s) ∧ BS w0 y (takeY b k s)) ∧ Below w.heap.size w w' := by
  have HV := Lib.hid hv
  have HVA := Lib.hid (fun o => hv.alloc o)
  obtain ⟨p, cap, rfl, -, -, -⟩ := hv
  have HBA := Lib.hid (fun o => (Below.refl w.heap.size w).alloc (Nat.le_refl _) o)
  by_cases h4 : k = 4
  · subst h4
    have HT : Hid (tTake b 4 s = (tCut b s).map fun p => (0, p.1, p.2)) := Lib.hid (if_pos rfl)
    have HF : Hid (takeN b 4 s = 0 ∧ takeX b 4 s = cutX b s ∧ takeY b 4 s = cutY b s ∧ (tTake b 4 s).isSome = (tCut b s).isSome) := Lib.hid (by
      unfold takeN takeX takeY cutX cutY
      rw [HT.out]
      cases tCut b s <;> exact ⟨rfl, rfl, rfl, rfl⟩)
    rw [HF.out.1, HF.out.2.1, HF.out.2.2.1, HF.out.2.2.2]
    clear HT HF
    have HCU := Lib.hid (fun o => rCut_any _ b s (w.alloc o) (HV.out.alloc o))
    generalize b.length = m at *
    go_enter Try.func34, Try.ntmps34
    go_wp2_with fail
    refine (HCU.out _).mono ?_
    rintro e w2 ⟨x, y, rfl, hxy, nd, rfl⟩
    have HXY := Lib.hid hxy
    obtain ⟨hx, hy⟩ := hxy w HV.out
    clear hxy
    obtain ⟨px, cx, rfl, -, -, -⟩ := hx
    obtain ⟨py, cy, rfl, -, -, -⟩ := hy
    go_wp2
    (try simp only [Exit.inBlock, Exit.then])
    refine bodyPost_ret (results_tmp4 rfl _ _ _) rfl ?_
    exact ⟨_, _, rfl, HXY.out, (HBA.out _).trans ((below_drewN _ nd).mono (by simp))⟩
  · rcases (by omega : k = 1 ∨ k = 2 ∨ k = 3 ∨ k = 5 ∨ k = 6 ∨ k = 7) with rfl | rfl | rfl | rfl | rfl | rfl
    · have hz : tSize 1 s = s := by unfold tSize; simp
      have HT : Hid (tTake b 1 s = (tNum b s).bind fun q =>
        if ((1 : Int) = 3 ∧ q.1 > 1) ∨ (((1 : Int) = 5 ∨ (1 : Int) = 6) ∧ q.1 > 16777216) then none
        else if (1 : Int) = 5 ∨ (1 : Int) = 6 then (tCut q.2 (q.1 : Int)).map fun p => (0, p.1, p.2)
        else some (q.1, [], q.2)) := Lib.hid (by unfold tTake; rw [if_neg h4, hz])
      have HTN := Lib.hid (fun o => rTakeNumber_any _ b s (w.alloc o) (HV.out.alloc o))
      cases hq : tNum b s with
      | none =>
        have hb : tTake b 1 s = none := by rw [HT.out, hq]; rfl
        have HF : Hid (takeN b 1 s = 0 ∧ takeX b 1 s = [] ∧ takeY b 1 s = [] ∧ (tTake b 1 s).isSome = false) := Lib.hid (by
          unfold takeN takeX takeY; rw [hb]; exact ⟨rfl, rfl, rfl, rfl⟩)
        rw [HF.out.1, HF.out.2.1, HF.out.2.2.1, HF.out.2.2.2]
        have hn : numV b s = 0 ∧ (tNum b s).isSome = false := by unfold numV; rw [hq]; exact ⟨rfl, rfl⟩
        rw [hn.1] at HTN
        rw [hn.2] at HTN
        clear HT HF hb hn hq
        generalize b.length = m at *
        go_enter Try.func34, Try.ntmps34
        go_wp2_with fail
        refine (HTN.out _).mono ?_
        rintro e w2 ⟨y, rfl, hyy, nd, rfl⟩
        have HY := Lib.hid hyy
        have hy := hyy w HV.out
        clear hyy
        obtain ⟨py, cy, rfl, -, -, -⟩ := hy
        go_wp2
        (try simp only [Exit.inBlock, Exit.then])
        refine bodyPost_ret (results_tmp4 rfl _ _ _) rfl ?_
        exact ⟨_, _, rfl, fun _ _ => ⟨BS.nil _, BS.nil _⟩, (HBA.out _).trans ((below_drewN _ nd).mono (by simp))⟩
      | some q =>
        obtain ⟨n, r⟩ := q
        have hnl := tNum_lt hq
        have hn : numV b s = n ∧ (tNum b s).isSome = true ∧ numR b s = r := by unfold numV numR; rw [hq]; exact ⟨rfl, rfl, rfl⟩
        rw [hn.1, hn.2.2] at HTN
        rw [hn.2.1] at HTN
        rw [hq] at HT
        clear hn hq
        have hb : tTake b 1 s = some (n, [], r) := by rw [HT.out]; simp
        have HF : Hid (takeN b 1 s = n ∧ takeX b 1 s = [] ∧ takeY b 1 s = r ∧ (tTake b 1 s).isSome = true) := Lib.hid (by
          unfold takeN takeX takeY; rw [hb]; exact ⟨rfl, rfl, rfl, rfl⟩)
        rw [HF.out.1, HF.out.2.1, HF.out.2.2.1, HF.out.2.2.2]
        clear HT HF hb
        generalize b.length = m at *
        go_enter Try.func34, Try.ntmps34
        go_wp2_with fail
        refine (HTN.out _).mono ?_
        rintro e w2 ⟨y, rfl, hyy, nd, rfl⟩
        have HY := Lib.hid hyy
        have hy := hyy w HV.out
        clear hyy
        obtain ⟨py, cy, rfl, -, -, -⟩ := hy
        go_wp2
        (try simp only [Exit.inBlock, Exit.then])
        refine bodyPost_ret (results_tmp4 rfl _ _ _) rfl ?_
        exact ⟨_, _, rfl, fun w0 h0 => ⟨BS.nil _, HY.out w0 h0⟩, (HBA.out _).trans ((below_drewN _ nd).mono (by simp))⟩
    · have hz : tSize 2 s = 8 := by unfold tSize; simp
      have HT : Hid (tTake b 2 s = (tNum b 8).bind fun q =>
        if ((2 : Int) = 3 ∧ q.1 > 1) ∨ (((2 : Int) = 5 ∨ (2 : Int) = 6) ∧ q.1 > 16777216) then none
        else if (2 : Int) = 5 ∨ (2 : Int) = 6 then (tCut q.2 (q.1 : Int)).map fun p => (0, p.1, p.2)
        else some (q.1, [], q.2)) := Lib.hid (by unfold tTake; rw [if_neg h4, hz])
      have HTN := Lib.hid (fun o => rTakeNumber_any _ b 8 (w.alloc o) (HV.out.alloc o))
      cases hq : tNum b 8 with
      | none =>
        have hb : tTake b 2 s = none := by rw [HT.out, hq]; rfl
        have HF : Hid (takeN b 2 s = 0 ∧ takeX b 2 s = [] ∧ takeY b 2 s = [] ∧ (tTake b 2 s).isSome = false) := Lib.hid (by
          unfold takeN takeX takeY; rw [hb]; exact ⟨rfl, rfl, rfl, rfl⟩)
        rw [HF.out.1, HF.out.2.1, HF.out.2.2.1, HF.out.2.2.2]
        have hn : numV b 8 = 0 ∧ (tNum b 8).isSome = false := by unfold numV; rw [hq]; exact ⟨rfl, rfl⟩
        rw [hn.1] at HTN
        rw [hn.2] at HTN
        clear HT HF hb hn hq
        generalize b.length = m at *
        go_enter Try.func34, Try.ntmps34
        go_wp2_with fail
        refine (HTN.out _).mono ?_
        rintro e w2 ⟨y, rfl, hyy, nd, rfl⟩
        have HY := Lib.hid hyy
        have hy := hyy w HV.out
        clear hyy
        obtain ⟨py, cy, rfl, -, -, -⟩ := hy
        go_wp2
        (try simp only [Exit.inBlock, Exit.then])
        refine bodyPost_ret (results_tmp4 rfl _ _ _) rfl ?_
        exact ⟨_, _, rfl, fun _ _ => ⟨BS.nil _, BS.nil _⟩, (HBA.out _).trans ((below_drewN _ nd).mono (by simp))⟩
      | some q =>
        obtain ⟨n, r⟩ := q
        have hnl := tNum_lt hq
        have hn : numV b 8 = n ∧ (tNum b 8).isSome = true ∧ numR b 8 = r := by unfold numV numR; rw [hq]; exact ⟨rfl, rfl, rfl⟩
        rw [hn.1, hn.2.2] at HTN
        rw [hn.2.1] at HTN
        rw [hq] at HT
        clear hn hq
        have hb : tTake b 2 s = some (n, [], r) := by rw [HT.out]; simp
        have HF : Hid (takeN b 2 s = n ∧ takeX b 2 s = [] ∧ takeY b 2 s = r ∧ (tTake b 2 s).isSome = true) := Lib.hid (by
          unfold takeN takeX takeY; rw [hb]; exact ⟨rfl, rfl, rfl, rfl⟩)
        rw [HF.out.1, HF.out.2.1, HF.out.2.2.1, HF.out.2.2.2]
        clear HT HF hb
        generalize b.length = m at *
        go_enter Try.func34, Try.ntmps34
        go_wp2_with fail
        refine (HTN.out _).mono ?_
        rintro e w2 ⟨y, rfl, hyy, nd, rfl⟩
        have HY := Lib.hid hyy
        have hy := hyy w HV.out
        clear hyy
        obtain ⟨py, cy, rfl, -, -, -⟩ := hy
        go_wp2
        (try simp only [Exit.inBlock, Exit.then])
        refine bodyPost_ret (results_tmp4 rfl _ _ _) rfl ?_
        exact ⟨_, _, rfl, fun w0 h0 => ⟨BS.nil _, HY.out w0 h0⟩, (HBA.out _).trans ((below_drewN _ nd).mono (by simp))⟩
    · have hz : tSize 3 s = 1 := by unfold tSize; simp
      have HT : Hid (tTake b 3 s = (tNum b 1).bind fun q =>
        if ((3 : Int) = 3 ∧ q.1 > 1) ∨ (((3 : Int) = 5 ∨ (3 : Int) = 6) ∧ q.1 > 16777216) then none
        else if (3 : Int) = 5 ∨ (3 : Int) = 6 then (tCut q.2 (q.1 : Int)).map fun p => (0, p.1, p.2)
        else some (q.1, [], q.2)) := Lib.hid (by unfold tTake; rw [if_neg h4, hz])
      have HTN := Lib.hid (fun o => rTakeNumber_any _ b 1 (w.alloc o) (HV.out.alloc o))
      cases hq : tNum b 1 with
      | none =>
        have hb : tTake b 3 s = none := by rw [HT.out, hq]; rfl
        have HF : Hid (takeN b 3 s = 0 ∧ takeX b 3 s = [] ∧ takeY b 3 s = [] ∧ (tTake b 3 s).isSome = false) := Lib.hid (by
          unfold takeN takeX takeY; rw [hb]; exact ⟨rfl, rfl, rfl, rfl⟩)
        rw [HF.out.1, HF.out.2.1, HF.out.2.2.1, HF.out.2.2.2]
        have hn : numV b 1 = 0 ∧ (tNum b 1).isSome = false := by unfold numV; rw [hq]; exact ⟨rfl, rfl⟩
        rw [hn.1] at HTN
        rw [hn.2] at HTN
        clear HT HF hb hn hq
        generalize b.length = m at *
        go_enter Try.func34, Try.ntmps34
        go_wp2_with fail
        refine (HTN.out _).mono ?_
        rintro e w2 ⟨y, rfl, hyy, nd, rfl⟩
        have HY := Lib.hid hyy
        have hy := hyy w HV.out
        clear hyy
        obtain ⟨py, cy, rfl, -, -, -⟩ := hy
        go_wp2
        (try simp only [Exit.inBlock, Exit.then])
        refine bodyPost_ret (results_tmp4 rfl _ _ _) rfl ?_
        exact ⟨_, _, rfl, fun _ _ => ⟨BS.nil _, BS.nil _⟩, (HBA.out _).trans ((below_drewN _ nd).mono (by simp))⟩
      | some q =>
        obtain ⟨n, r⟩ := q
        have hnl := tNum_lt hq
        have hn : numV b 1 = n ∧ (tNum b 1).isSome = true ∧ numR b 1 = r := by unfold numV numR; rw [hq]; exact ⟨rfl, rfl, rfl⟩
        rw [hn.1, hn.2.2] at HTN
        rw [hn.2.1] at HTN
        rw [hq] at HT
        clear hn hq
        by_cases hbig : n > 1
        · have hb : tTake b 3 s = none := by rw [HT.out]; simp [hbig]
          have HF : Hid (takeN b 3 s = 0 ∧ takeX b 3 s = [] ∧ takeY b 3 s = [] ∧ (tTake b 3 s).isSome = false) := Lib.hid (by
            unfold takeN takeX takeY; rw [hb]; exact ⟨rfl, rfl, rfl, rfl⟩)
          rw [HF.out.1, HF.out.2.1, HF.out.2.2.1, HF.out.2.2.2]
          clear HT HF hb
          generalize b.length = m at *
          go_enter Try.func34, Try.ntmps34
          go_wp2_with fail
          refine (HTN.out _).mono ?_
          rintro e w2 ⟨y, rfl, hyy, nd, rfl⟩
          have HY := Lib.hid hyy
          have hy := hyy w HV.out
          clear hyy
          obtain ⟨py, cy, rfl, -, -, -⟩ := hy
          go_wp2
          (try simp only [Exit.inBlock, Exit.then])
          refine bodyPost_ret (results_tmp4 rfl _ _ _) rfl ?_
          exact ⟨_, _, rfl, fun _ _ => ⟨BS.nil _, BS.nil _⟩, (HBA.out _).trans ((below_drewN _ nd).mono (by simp))⟩
        · have hb : tTake b 3 s = some (n, [], r) := by rw [HT.out]; simp [hbig]
          have HF : Hid (takeN b 3 s = n ∧ takeX b 3 s = [] ∧ takeY b 3 s = r ∧ (tTake b 3 s).isSome = true) := Lib.hid (by
            unfold takeN takeX takeY; rw [hb]; exact ⟨rfl, rfl, rfl, rfl⟩)
          rw [HF.out.1, HF.out.2.1, HF.out.2.2.1, HF.out.2.2.2]
          clear HT HF hb
          generalize b.length = m at *
          go_enter Try.func34, Try.ntmps34
          go_wp2_with fail
          refine (HTN.out _).mono ?_
          rintro e w2 ⟨y, rfl, hyy, nd, rfl⟩
          have HY := Lib.hid hyy
          have hy := hyy w HV.out
          clear hyy
          obtain ⟨py, cy, rfl, -, -, -⟩ := hy
          go_wp2
          (try simp only [Exit.inBlock, Exit.then])
          refine bodyPost_ret (results_tmp4 rfl _ _ _) rfl ?_
          exact ⟨_, _, rfl, fun w0 h0 => ⟨BS.nil _, HY.out w0 h0⟩, (HBA.out _).trans ((below_drewN _ nd).mono (by simp))⟩
    · have hz : tSize 5 s = 4 := by unfold tSize; simp
      have HT : Hid (tTake b 5 s = (tNum b 4).bind fun q =>
        if ((5 : Int) = 3 ∧ q.1 > 1) ∨ (((5 : Int) = 5 ∨ (5 : Int) = 6) ∧ q.1 > 16777216) then none
        else if (5 : Int) = 5 ∨ (5 : Int) = 6 then (tCut q.2 (q.1 : Int)).map fun p => (0, p.1, p.2)
        else some (q.1, [], q.2)) := Lib.hid (by unfold tTake; rw [if_neg h4, hz])
      have HTN := Lib.hid (fun o => rTakeNumber_any _ b 4 (w.alloc o) (HV.out.alloc o))
      cases hq : tNum b 4 with
      | none =>
        have hb : tTake b 5 s = none := by rw [HT.out, hq]; rfl
        have HF : Hid (takeN b 5 s = 0 ∧ takeX b 5 s = [] ∧ takeY b 5 s = [] ∧ (tTake b 5 s).isSome = false) := Lib.hid (by
          unfold takeN takeX takeY; rw [hb]; exact ⟨rfl, rfl, rfl, rfl⟩)
        rw [HF.out.1, HF.out.2.1, HF.out.2.2.1, HF.out.2.2.2]
        have hn : numV b 4 = 0 ∧ (tNum b 4).isSome = false := by unfold numV; rw [hq]; exact ⟨rfl, rfl⟩
        rw [hn.1] at HTN
        rw [hn.2] at HTN
        clear HT HF hb hn hq
        generalize b.length = m at *
        go_enter Try.func34, Try.ntmps34
        go_wp2_with fail
        refine (HTN.out _).mono ?_
        rintro e w2 ⟨y, rfl, hyy, nd, rfl⟩
        have HY := Lib.hid hyy
        have hy := hyy w HV.out
        clear hyy
        obtain ⟨py, cy, rfl, -, -, -⟩ := hy
        go_wp2
        (try simp only [Exit.inBlock, Exit.then])
        refine bodyPost_ret (results_tmp4 rfl _ _ _) rfl ?_
        exact ⟨_, _, rfl, fun _ _ => ⟨BS.nil _, BS.nil _⟩, (HBA.out _).trans ((below_drewN _ nd).mono (by simp))⟩
      | some q =>
        obtain ⟨n, r⟩ := q
        have hnl := tNum_lt hq
        have hn : numV b 4 = n ∧ (tNum b 4).isSome = true ∧ numR b 4 = r := by unfold numV numR; rw [hq]; exact ⟨rfl, rfl, rfl⟩
        rw [hn.1, hn.2.2] at HTN
        rw [hn.2.1] at HTN
        rw [hq] at HT
        clear hn hq
        by_cases hbig : n > 16777216
        · have hb : tTake b 5 s = none := by rw [HT.out]; simp [hbig]
          have HF : Hid (takeN b 5 s = 0 ∧ takeX b 5 s = [] ∧ takeY b 5 s = [] ∧ (tTake b 5 s).isSome = false) := Lib.hid (by
            unfold takeN takeX takeY; rw [hb]; exact ⟨rfl, rfl, rfl, rfl⟩)
          rw [HF.out.1, HF.out.2.1, HF.out.2.2.1, HF.out.2.2.2]
          clear HT HF hb
          generalize b.length = m at *
          go_enter Try.func34, Try.ntmps34
          go_wp2_with fail
          refine (HTN.out _).mono ?_
          rintro e w2 ⟨y, rfl, hyy, nd, rfl⟩
          have HY := Lib.hid hyy
          have hy := hyy w HV.out
          clear hyy
          obtain ⟨py, cy, rfl, -, -, -⟩ := hy
          go_wp2
          (try simp only [Exit.inBlock, Exit.then])
          refine bodyPost_ret (results_tmp4 rfl _ _ _) rfl ?_
          exact ⟨_, _, rfl, fun _ _ => ⟨BS.nil _, BS.nil _⟩, (HBA.out _).trans ((below_drewN _ nd).mono (by simp))⟩
        · have hb : tTake b 5 s = (tCut r (n : Int)).map fun p => (0, p.1, p.2) := by rw [HT.out]; simp [hbig]
          have HF : Hid (takeN b 5 s = 0 ∧ takeX b 5 s = cutX r (n : Int) ∧ takeY b 5 s = cutY r (n : Int) ∧ (tTake b 5 s).isSome = (tCut r (n : Int)).isSome) := Lib.hid (by
            unfold takeN takeX takeY cutX cutY
            rw [hb]
            cases tCut r (n : Int) <;> exact ⟨rfl, rfl, rfl, rfl⟩)
          rw [HF.out.1, HF.out.2.1, HF.out.2.2.1, HF.out.2.2.2]
          clear HT HF hb
          generalize b.length = m at *
          go_enter Try.func34, Try.ntmps34
          go_wp2_with fail
          refine (HTN.out _).mono ?_
          rintro e w2 ⟨y, rfl, hyy, nd, rfl⟩
          have HY := Lib.hid hyy
          have hy := hyy w HV.out
          clear hyy
          have HCU := Lib.hid (fun W h => rCut_any y r (n : Int) W h)
          have HYB := Lib.hid hy
          obtain ⟨py, cy, rfl, -, -, -⟩ := hy
          generalize r.length = mr at *
          go_wp2_with fail
          refine (HCU.out _ ((HYB.out.alloc _).drewN' nd)).mono ?_
          rintro e w2 ⟨x, y, rfl, hxy, nd2, rfl⟩
          have HXY := Lib.hid (fun w0 h0 => hxy w0 (HY.out w0 h0))
          obtain ⟨hx, hy⟩ := hxy w HYB.out
          clear hxy
          obtain ⟨px, cx, rfl, -, -, -⟩ := hx
          obtain ⟨py, cy, rfl, -, -, -⟩ := hy
          go_wp2
          (try simp only [Exit.inBlock, Exit.then])
          refine bodyPost_ret (results_tmp4 rfl _ _ _) rfl ?_
          refine ⟨_, _, rfl, HXY.out, ?_⟩
          try rw [World.drewN_drewN]
          exact (HBA.out _).trans ((below_drewN _ _).mono (by simp))
    · have hz : tSize 6 s = 4 := by unfold tSize; simp
      have HT : Hid (tTake b 6 s = (tNum b 4).bind fun q =>
        if ((6 : Int) = 3 ∧ q.1 > 1) ∨ (((6 : Int) = 5 ∨ (6 : Int) = 6) ∧ q.1 > 16777216) then none
        else if (6 : Int) = 5 ∨ (6 : Int) = 6 then (tCut q.2 (q.1 : Int)).map fun p => (0, p.1, p.2)
        else some (q.1, [], q.2)) := Lib.hid (by unfold tTake; rw [if_neg h4, hz])
      have HTN := Lib.hid (fun o => rTakeNumber_any _ b 4 (w.alloc o) (HV.out.alloc o))
      cases hq : tNum b 4 with
      | none =>
        have hb : tTake b 6 s = none := by rw [HT.out, hq]; rfl
        have HF : Hid (takeN b 6 s = 0 ∧ takeX b 6 s = [] ∧ takeY b 6 s = [] ∧ (tTake b 6 s).isSome = false) := Lib.hid (by
          unfold takeN takeX takeY; rw [hb]; exact ⟨rfl, rfl, rfl, rfl⟩)
        rw [HF.out.1, HF.out.2.1, HF.out.2.2.1, HF.out.2.2.2]
        have hn : numV b 4 = 0 ∧ (tNum b 4).isSome = false := by unfold numV; rw [hq]; exact ⟨rfl, rfl⟩
        rw [hn.1] at HTN
        rw [hn.2] at HTN
        clear HT HF hb hn hq
        generalize b.length = m at *
        go_enter Try.func34, Try.ntmps34
        go_wp2_with fail
        refine (HTN.out _).mono ?_
        rintro e w2 ⟨y, rfl, hyy, nd, rfl⟩
        have HY := Lib.hid hyy
        have hy := hyy w HV.out
        clear hyy
        obtain ⟨py, cy, rfl, -, -, -⟩ := hy
        go_wp2
        (try simp only [Exit.inBlock, Exit.then])
        refine bodyPost_ret (results_tmp4 rfl _ _ _) rfl ?_
        exact ⟨_, _, rfl, fun _ _ => ⟨BS.nil _, BS.nil _⟩, (HBA.out _).trans ((below_drewN _ nd).mono (by simp))⟩
      | some q =>
        obtain ⟨n, r⟩ := q
        have hnl := tNum_lt hq
        have hn : numV b 4 = n ∧ (tNum b 4).isSome = true ∧ numR b 4 = r := by unfold numV numR; rw [hq]; exact ⟨rfl, rfl, rfl⟩
        rw [hn.1, hn.2.2] at HTN
        rw [hn.2.1] at HTN
        rw [hq] at HT
        clear hn hq
        by_cases hbig : n > 16777216
        · have hb : tTake b 6 s = none := by rw [HT.out]; simp [hbig]
          have HF : Hid (takeN b 6 s = 0 ∧ takeX b 6 s = [] ∧ takeY b 6 s = [] ∧ (tTake b 6 s).isSome = false) := Lib.hid (by
            unfold takeN takeX takeY; rw [hb]; exact ⟨rfl, rfl, rfl, rfl⟩)
          rw [HF.out.1, HF.out.2.1, HF.out.2.2.1, HF.out.2.2.2]
          clear HT HF hb
          generalize b.length = m at *
          go_enter Try.func34, Try.ntmps34
          go_wp2_with fail
          refine (HTN.out _).mono ?_
          rintro e w2 ⟨y, rfl, hyy, nd, rfl⟩
          have HY := Lib.hid hyy
          have hy := hyy w HV.out
          clear hyy
          obtain ⟨py, cy, rfl, -, -, -⟩ := hy
          go_wp2
          (try simp only [Exit.inBlock, Exit.then])
          refine bodyPost_ret (results_tmp4 rfl _ _ _) rfl ?_
          exact ⟨_, _, rfl, fun _ _ => ⟨BS.nil _, BS.nil _⟩, (HBA.out _).trans ((below_drewN _ nd).mono (by simp))⟩
        · have hb : tTake b 6 s = (tCut r (n : Int)).map fun p => (0, p.1, p.2) := by rw [HT.out]; simp [hbig]
          have HF : Hid (takeN b 6 s = 0 ∧ takeX b 6 s = cutX r (n : Int) ∧ takeY b 6 s = cutY r (n : Int) ∧ (tTake b 6 s).isSome = (tCut r (n : Int)).isSome) := Lib.hid (by
            unfold takeN takeX takeY cutX cutY
            rw [hb]
            cases tCut r (n : Int) <;> exact ⟨rfl, rfl, rfl, rfl⟩)
          rw [HF.out.1, HF.out.2.1, HF.out.2.2.1, HF.out.2.2.2]
          clear HT HF hb
          generalize b.length = m at *
          go_enter Try.func34, Try.ntmps34
          go_wp2_with fail
          refine (HTN.out _).mono ?_
          rintro e w2 ⟨y, rfl, hyy, nd, rfl⟩
          have HY := Lib.hid hyy
          have hy := hyy w HV.out
          clear hyy
          have HCU := Lib.hid (fun W h => rCut_any y r (n : Int) W h)
          have HYB := Lib.hid hy
          obtain ⟨py, cy, rfl, -, -, -⟩ := hy
          generalize r.length = mr at *
          go_wp2_with fail
          refine (HCU.out _ ((HYB.out.alloc _).drewN' nd)).mono ?_
          rintro e w2 ⟨x, y, rfl, hxy, nd2, rfl⟩
          have HXY := Lib.hid (fun w0 h0 => hxy w0 (HY.out w0 h0))
          obtain ⟨hx, hy⟩ := hxy w HYB.out
          clear hxy
          obtain ⟨px, cx, rfl, -, -, -⟩ := hx
          obtain ⟨py, cy, rfl, -, -, -⟩ := hy
          go_wp2
          (try simp only [Exit.inBlock, Exit.then])
          refine bodyPost_ret (results_tmp4 rfl _ _ _) rfl ?_
          refine ⟨_, _, rfl, HXY.out, ?_⟩
          try rw [World.drewN_drewN]
          exact (HBA.out _).trans ((below_drewN _ _).mono (by simp))
    · have hz : tSize 7 s = 2 := by unfold tSize; simp
      have HT : Hid (tTake b 7 s = (tNum b 2).bind fun q =>
        if ((7 : Int) = 3 ∧ q.1 > 1) ∨ (((7 : Int) = 5 ∨ (7 : Int) = 6) ∧ q.1 > 16777216) then none
        else if (7 : Int) = 5 ∨ (7 : Int) = 6 then (tCut q.2 (q.1 : Int)).map fun p => (0, p.1, p.2)
        else some (q.1, [], q.2)) := Lib.hid (by unfold tTake; rw [if_neg h4, hz])
      have HTN := Lib.hid (fun o => rTakeNumber_any _ b 2 (w.alloc o) (HV.out.alloc o))
      cases hq : tNum b 2 with
      | none =>
        have hb : tTake b 7 s = none := by rw [HT.out, hq]; rfl
        have HF : Hid (takeN b 7 s = 0 ∧ takeX b 7 s = [] ∧ takeY b 7 s = [] ∧ (tTake b 7 s).isSome = false) := Lib.hid (by
          unfold takeN takeX takeY; rw [hb]; exact ⟨rfl, rfl, rfl, rfl⟩)
        rw [HF.out.1, HF.out.2.1, HF.out.2.2.1, HF.out.2.2.2]
        have hn : numV b 2 = 0 ∧ (tNum b 2).isSome = false := by unfold numV; rw [hq]; exact ⟨rfl, rfl⟩
        rw [hn.1] at HTN
        rw [hn.2] at HTN
        clear HT HF hb hn hq
        generalize b.length = m at *
        go_enter Try.func34, Try.ntmps34
        go_wp2_with fail
        refine (HTN.out _).mono ?_
        rintro e w2 ⟨y, rfl, hyy, nd, rfl⟩
        have HY := Lib.hid hyy
        have hy := hyy w HV.out
        clear hyy
        obtain ⟨py, cy, rfl, -, -, -⟩ := hy
        go_wp2
        (try simp only [Exit.inBlock, Exit.then])
        refine bodyPost_ret (results_tmp4 rfl _ _ _) rfl ?_
        exact ⟨_, _, rfl, fun _ _ => ⟨BS.nil _, BS.nil _⟩, (HBA.out _).trans ((below_drewN _ nd).mono (by simp))⟩
      | some q =>
        obtain ⟨n, r⟩ := q
        have hnl := tNum_lt hq
        have hn : numV b 2 = n ∧ (tNum b 2).isSome = true ∧ numR b 2 = r := by unfold numV numR; rw [hq]; exact ⟨rfl, rfl, rfl⟩
        rw [hn.1, hn.2.2] at HTN
        rw [hn.2.1] at HTN
        rw [hq] at HT
        clear hn hq
        have hb : tTake b 7 s = some (n, [], r) := by rw [HT.out]; simp
        have HF : Hid (takeN b 7 s = n ∧ takeX b 7 s = [] ∧ takeY b 7 s = r ∧ (tTake b 7 s).isSome = true) := Lib.hid (by
          unfold takeN takeX takeY; rw [hb]; exact ⟨rfl, rfl, rfl, rfl⟩)
        rw [HF.out.1, HF.out.2.1, HF.out.2.2.1, HF.out.2.2.2]
        clear HT HF hb
        generalize b.length = m at *
        go_enter Try.func34, Try.ntmps34
        go_wp2_with fail
        refine (HTN.out _).mono ?_
        rintro e w2 ⟨y, rfl, hyy, nd, rfl⟩
        have HY := Lib.hid hyy
        have hy := hyy w HV.out
        clear hyy
        obtain ⟨py, cy, rfl, -, -, -⟩ := hy
        go_wp2
        (try simp only [Exit.inBlock, Exit.then])
        refine bodyPost_ret (results_tmp4 rfl _ _ _) rfl ?_
        exact ⟨_, _, rfl, fun w0 h0 => ⟨BS.nil _, HY.out w0 h0⟩, (HBA.out _).trans ((below_drewN _ nd).mono (by simp))⟩
end Go.Proofs.Ytfpcpnjegbmdbaa
