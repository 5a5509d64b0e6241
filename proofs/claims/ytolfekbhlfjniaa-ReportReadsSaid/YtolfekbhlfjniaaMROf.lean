/- Plain law of a report's bytes: which bytes are a report's. Contract: report.Of. Contract: couponref17.Of. -/
import Derived.Test.YtolfekbhlfjniaaMRep
import Derived.Test.YtolfekbhlfjniaaMRead
import Derived.Test.YtolfekbhlfjniaaMOf
set_option linter.unusedVariables false
namespace Go.Proofs.Ytolfekbhlfjniaa
open Go.RowKit
theorem wf_i64 (n : Int) (h : -9223372036854775808 ≤ n ∧ n ≤ 9223372036854775807) : Lit.wf (.int .i64 n) := by
  simpa [Lit.wf, IntKind.min, IntKind.max, IntKind.signed, IntKind.bits] using h
theorem wf_u64 (n : Int) (h : 0 ≤ n ∧ n ≤ 18446744073709551615) : Lit.wf (.int .u64 n) := by
  simpa [Lit.wf, IntKind.min, IntKind.max, IntKind.signed, IntKind.bits] using h
theorem wrap64_in (n : Int) : -9223372036854775808 ≤ wrap64 n ∧ wrap64 n ≤ 9223372036854775807 := by unfold wrap64; omega
theorem pOf_wf (b : List UInt8) : (pOf b).wf := by
  have l := fun o k => vAt_lt b o k
  have l1 : vAt b 10 4 < 4294967296 := l 10 4
  have l2 : vAt b 0 8 < 18446744073709551616 := l 0 8
  have l3 : vAt b 8 2 < 65536 := l 8 2
  have l4 : vAt b 14 1 < 256 := l 14 1
  unfold pOf
  exact ⟨wf_i64 _ (by show _ ≤ ((vAt b 10 4 : Nat) : Int) ∧ ((vAt b 10 4 : Nat) : Int) ≤ _; omega), wf_u64 _ (by show _ ≤ ((vAt b 0 8 : Nat) : Int) ∧ ((vAt b 0 8 : Nat) : Int) ≤ _; omega), wf_i64 _ (by show _ ≤ ((vAt b 8 2 : Nat) : Int) ∧ ((vAt b 8 2 : Nat) : Int) ≤ _; omega), wf_i64 _ (by show _ ≤ ((vAt b 14 1 : Nat) : Int) ∧ ((vAt b 14 1 : Nat) : Int) ≤ _; omega), wf_i64 _ (wrap64_in _), wf_i64 _ (wrap64_in _), wf_i64 _ (wrap64_in _), wf_i64 _ (wrap64_in _), wf_i64 _ (wrap64_in _), wf_i64 _ (wrap64_in _)⟩
namespace Rep
/-- the k-th row's bytes, behind a report's head -/
def chunk (b : List UInt8) (k : Nat) : List UInt8 := rBy (stAt b (12 + 63 * k)) 63
def rowsK (b : List UInt8) (k : Nat) : List Pst := (List.range k).map fun i => pOf (chunk b i)
theorem rowsK_succ (b : List UInt8) (k : Nat) : rowsK b (k + 1) = rowsK b k ++ [pOf (chunk b k)] := by
  unfold rowsK
  rw [List.range_succ, List.map_append]
  rfl
theorem rowsK_length (b : List UInt8) (k : Nat) : (rowsK b k).length = k := by simp [rowsK]
theorem rowsK_wf (b : List UInt8) (k : Nat) : WF (rowsK b k) := by
  intro x hx
  unfold rowsK at hx
  obtain ⟨i, _, rfl⟩ := List.mem_map.1 hx
  exact pOf_wf _
theorem rowsK_mem {b : List UInt8} {k i : Nat} (h : i < k) : pOf (chunk b i) ∈ rowsK b k := List.mem_map.2 ⟨i, List.mem_range.2 h, rfl⟩
theorem stAt_cut (b : List UInt8) (o k : Nat) : rRest (stAt b o) (k : Int) = stAt b (o + k) := by
  unfold stAt
  by_cases h : o ≤ b.length
  · rw [if_pos h]
    by_cases h2 : o + k ≤ b.length
    · rw [if_pos h2, (rTake_fit (l := b.drop o) (n := k) (by rw [List.length_drop]; omega)).2, List.drop_drop]
    · rw [if_neg h2]
      exact (rTake_bad (fun l e => by injection e with e; subst e; rw [List.length_drop]; omega)).2
  · rw [if_neg h, if_neg (by omega)]; rfl
theorem stAt_len (b : List UInt8) (o : Nat) : rLen (stAt b o) = b.length - o := by
  unfold rLen stAt
  by_cases h : o ≤ b.length
  · rw [if_pos h]; simp
  · rw [if_neg h]; simp; omega
theorem stAt_nil (b : List UInt8) (o : Nat) : stAt b o = some [] ↔ b.length = o := by
  unfold stAt
  by_cases h : o ≤ b.length
  · rw [if_pos h]
    simp only [Option.some.injEq, List.drop_eq_nil_iff]; omega
  · rw [if_neg h]
    constructor
    · intro h; cases h
    · intro h2; omega
theorem chunk_len (b : List UInt8) (k : Nat) : (chunk b k).length = 63 ↔ 12 + 63 * (k + 1) ≤ b.length := by
  unfold chunk rBy stAt
  rw [show (63 : Int) = ((63 : Nat) : Int) from rfl]
  by_cases h : 12 + 63 * k ≤ b.length
  · rw [if_pos h]
    by_cases h2 : 12 + 63 * (k + 1) ≤ b.length
    · rw [(rTake_fit (l := b.drop (12 + 63 * k)) (n := 63) (by rw [List.length_drop]; omega)).1]
      simp only [Option.getD_some, List.length_take, List.length_drop]; omega
    · rw [(rTake_bad (st := some (b.drop (12 + 63 * k))) (n := ((63 : Nat) : Int)) (fun l e => by injection e with e; subst e; rw [List.length_drop]; omega)).1]
      simp; omega
  · rw [if_neg h]
    simp [rTake]; omega
theorem chunk_le (b : List UInt8) (k : Nat) : (chunk b k).length ≤ 63 := by
  unfold chunk
  exact rBy_le _ 63
def frB (b : List UInt8) : Int := (vAt b 0 4 : Nat)
def toB (b : List UInt8) : Int := (vAt b 4 4 : Nat)
def manyB (b : List UInt8) : Nat := vAt b 8 4
theorem headB (b : List UInt8) : (0 ≤ frB b ∧ frB b < 4294967296) ∧ (0 ≤ toB b ∧ toB b < 4294967296) ∧ manyB b < 4294967296 := by
  have h1 : vAt b 0 4 < 4294967296 := vAt_lt b 0 4
  have h2 : vAt b 4 4 < 4294967296 := vAt_lt b 4 4
  have h3 : vAt b 8 4 < 4294967296 := vAt_lt b 8 4
  unfold frB toB manyB
  exact ⟨⟨by omega, by omega⟩, ⟨by omega, by omega⟩, h3⟩
/-- are bytes just a report's that may be? -/
def OkB (b : List UInt8) : Prop := b.length = 12 + 63 * manyB b ∧ days (frB b) (toB b) = true ∧ FineP (rowsK b (manyB b)) ∧ (∀ z ∈ rowsK b (manyB b), within (frB b) (toB b) z = true) ∧ Srt.Up keyP (rowsK b (manyB b)) ∧ (Post.sums (rowsK b (manyB b))).e = 0
end Rep
end Go.Proofs.Ytolfekbhlfjniaa

set_option linter.unusedVariables false
set_option linter.unusedSimpArgs false
namespace Go.Proofs.Ytolfekbhlfjniaa
open Go.RowKit

theorem rows_kept {T : List TypeId} {w w' : World} {base e n m : Nat} {v : Value} {xs : List Value} (h : w.ownsRow base e n v m xs) (ht : e ∉ T) (hk : Kept T w w') : w'.ownsRow base e n v m xs := by
  obtain ⟨h1, h2⟩ := h
  refine ⟨h1, ?_⟩
  rcases h2 with h2 | ⟨g, cap, cur, e1, hg, hh, h3⟩
  · exact .inl h2
  · exact .inr ⟨g, cap, cur, e1, hg, hk.block g cur e (0, 0) hh ht, h3⟩
theorem kept_rows {w w' : World} {base e n m : Nat} {v : Value} {xs : List Value} (h : w.ownsRow base e n v m xs) (hg : w.grownBy w' v.ownBlock) : Kept [e] w w' := by
  refine ⟨hg.size, fun i cs t fr hi ht => ?_⟩
  by_cases hb : some i = v.ownBlock
  · exfalso
    rcases h.2 with ⟨rfl, _⟩ | ⟨g, cap, cur, rfl, _, hh, _⟩
    · cases hb
    · injection hb with hb
      simp at hb
      subst hb
      rw [hi] at hh
      injection hh with hh
      injection hh with _ hh _
      exact ht (by rw [hh]; simp)
  · exact (hg.block i (block_lt hi) hb).trans hi

def lenV : Value → Nat
  | .slice _ n _ => n
  | _ => 0

set_option maxRecDepth 4000 in
set_option maxHeartbeats 40000000 in
theorem rpOf_any (v : Value) (b : List UInt8) (hlen : b.length ≤ 5000) (bv : Bool) (hbv : bv = true ↔ Rep.OkB b) (ev m x0 x1 x2 x3 x4 x5 : Int) (hsum : Post.sums (Rep.rowsK b (Rep.manyB b)) = ⟨ev, m, [x0, x1, x2, x3, x4, x5]⟩) (w : World) (hv : BS w v b) :
    Calls Try.prog 13 #[v] w fun e w' => Below w.heap.size w w' ∧ (bv = false ∧ e = .returned (.tuple #[.agg #[.int .i64 0, .int .i64 0, .slice none 0 0, .int .i64 0, .int .i64 0, .int .i64 0, .int .i64 0, .int .i64 0, .int .i64 0, .int .i64 0], .int .i64 4]) ∨ bv = true ∧ ∃ rv, LS Pst.cells 10 w' rv (Rep.rowsK b (Rep.manyB b)) ∧ e = .returned (.tuple #[.agg #[.int .i64 (Rep.frB b), .int .i64 (Rep.toB b), rv, .int .i64 m, .int .i64 x0, .int .i64 x1, .int .i64 x2, .int .i64 x3, .int .i64 x4, .int .i64 x5], .int .i64 0])) := by
  have HN1 : Hid (∀ (W : World) (base br : Nat), IsR W base br (stAt b 0) → Calls Try.prog 37 #[.pointer (some ⟨br, 0, none⟩), .int .i64 4] W fun e w' => e = .returned (.int .u64 (Rep.frB b)) ∧ RStep W w' base br (stAt b 4)) := Lib.hid (fun W base br h => by
    have := rnumber_any base br _ 4 W h
    rwa [show (4 : Int) = ((4 : Nat) : Int) from rfl, stAt_num b 0 4 (by omega)] at this)
  have HN2 : Hid (∀ (W : World) (base br : Nat), IsR W base br (stAt b 4) → Calls Try.prog 37 #[.pointer (some ⟨br, 0, none⟩), .int .i64 4] W fun e w' => e = .returned (.int .u64 (Rep.toB b)) ∧ RStep W w' base br (stAt b 8)) := Lib.hid (fun W base br h => by
    have := rnumber_any base br _ 4 W h
    rwa [show (4 : Int) = ((4 : Nat) : Int) from rfl, stAt_num b 4 4 (by omega)] at this)
  have HN3 : Hid (∀ (W : World) (base br : Nat), IsR W base br (stAt b 8) → Calls Try.prog 37 #[.pointer (some ⟨br, 0, none⟩), .int .i64 4] W fun e w' => e = .returned (.int .u64 (Rep.manyB b : Nat)) ∧ RStep W w' base br (stAt b (12 + 63 * 0))) := Lib.hid (fun W base br h => by
    have := rnumber_any base br _ 4 W h
    rwa [show (4 : Int) = ((4 : Nat) : Int) from rfl, stAt_num b 8 4 (by omega)] at this)
  have HBY : Hid (∀ (W : World) (base br k : Nat), IsR W base br (stAt b (12 + 63 * k)) → Calls Try.prog 40 #[.pointer (some ⟨br, 0, none⟩), .int .i64 63] W fun e w' => ∃ v, e = .returned v ∧ w'.ownsRow W.heap.size 5 1 v (Rep.chunk b k).length (bytesV (Rep.chunk b k)) ∧ RStep W w' base br (stAt b (12 + 63 * (k + 1)))) := Lib.hid (fun W base br k h => by
    have := rbytes_any base br _ 63 (by decide) W h
    rwa [show (63 : Int) = ((63 : Nat) : Int) from rfl, Rep.stAt_cut b (12 + 63 * k) 63] at this)
  have hh := Rep.headB b
  have h1 := hh.1
  have h2 := hh.2.1
  have h3 := hh.2.2
  have z1 : IntKind.i64.wrap (Rep.frB b) = Rep.frB b := by rw [IntKind.wrap_i64]; omega
  have z2 : IntKind.i64.wrap (Rep.toB b) = Rep.toB b := by rw [IntKind.wrap_i64]; omega
  have z3 : IntKind.i64.wrap ((Rep.manyB b : Nat) : Int) = ((Rep.manyB b : Nat) : Int) := by rw [IntKind.wrap_i64]; omega
  have HRD := Lib.hid (fun W h => read_any v b (by omega) W h)
  rw [← stAt_zero b] at HRD
  have HV := Lib.hid hv
  have HBV := Lib.hid hbv
  have HSUM := Lib.hid hsum
  have HLEN := Lib.hid hlen
  clear hh hbv hsum hlen
  obtain ⟨p, cap, rfl, g1, g2, -⟩ := hv
  have HOK : Hid (Rep.OkB b ↔ b.length = 12 + 63 * Rep.manyB b ∧ Rep.days (Rep.frB b) (Rep.toB b) = true ∧ Rep.FineP (Rep.rowsK b (Rep.manyB b)) ∧ (∀ z ∈ Rep.rowsK b (Rep.manyB b), Rep.within (Rep.frB b) (Rep.toB b) z = true) ∧ Srt.Up keyP (Rep.rowsK b (Rep.manyB b)) ∧ (Post.sums (Rep.rowsK b (Rep.manyB b))).e = 0) := Lib.hid Iff.rfl
  have HCL := Lib.hid (fun k => Rep.chunk_len b k)
  have HLF : Hid (∀ (W : World) (base br k : Nat), IsR W base br (stAt b (12 + 63 * k)) → Calls Try.prog 38 #[.pointer (some ⟨br, 0, none⟩)] W fun e w' => e = .returned (.int .i64 ((b.length - (12 + 63 * k) : Nat) : Int)) ∧ ∃ n, w' = W.drewN n) := Lib.hid (fun W base br k h => by
    have := rleft_any base br _ W h
    rwa [Rep.stAt_len] at this)
  have HEN : Hid (∀ (W : World) (base br k : Nat), IsR W base br (stAt b (12 + 63 * k)) → Calls Try.prog 41 #[.pointer (some ⟨br, 0, none⟩)] W fun e w' => e = .returned (.int .i64 (if b.length = 12 + 63 * k then 0 else 4)) ∧ ∃ n, w' = W.drewN n) := Lib.hid (fun W base br k h => by
    have := rend_any base br _ W h
    simp only [Rep.stAt_nil] at this
    exact this)
  have HPO := Lib.hid (fun k v W h => pOf_any v (Rep.chunk b k) (Nat.le_trans (Rep.chunk_le b k) (by decide)) W h)
  have HS0 := Lib.hid (stAt_zero b)
  generalize Rep.frB b = F at *
  generalize Rep.toB b = T at *
  generalize Rep.manyB b = M at *
  generalize b.length = B at *
  go_enter Try.func13, Try.ntmps13
  go_wp2_with fail
  have hbz := (Below.refl w.heap.size w).alloc (Nat.le_refl _) (.cells #[.int .i64 0, .int .i64 0, .slice none 0 0, .int .i64 0, .int .i64 0, .int .i64 0, .int .i64 0, .int .i64 0, .int .i64 0, .int .i64 0] 27 (0, 0))
  have hrz : (w.alloc (.cells #[.int .i64 0, .int .i64 0, .slice none 0 0, .int .i64 0, .int .i64 0, .int .i64 0, .int .i64 0, .int .i64 0, .int .i64 0, .int .i64 0] 27)).heap[w.heap.size]? = some (.cells #[.int .i64 0, .int .i64 0, .slice none 0 0, .int .i64 0, .int .i64 0, .int .i64 0, .int .i64 0, .int .i64 0, .int .i64 0, .int .i64 0] 27 (0, 0)) := new_row w _ _ rfl
  have HBZ := Lib.hid hbz
  have HVZ := Lib.hid (HV.out.alloc (.cells #[.int .i64 0, .int .i64 0, .slice none 0 0, .int .i64 0, .int .i64 0, .int .i64 0, .int .i64 0, .int .i64 0, .int .i64 0, .int .i64 0] 27 (0, 0)))
  generalize w.alloc (.cells #[.int .i64 0, .int .i64 0, .slice none 0 0, .int .i64 0, .int .i64 0, .int .i64 0, .int .i64 0, .int .i64 0, .int .i64 0, .int .i64 0] 27) = W0 at *
  have hlz : w.heap.size < W0.heap.size := block_lt hrz
  have HRZ := Lib.hid hrz
  clear hbz hrz
  refine (HRD.out _ HVZ.out).mono ?_
  rintro e w1 ⟨br, rfl, hr, hb1⟩
  have HI1 := Lib.hid hr
  have HB1 := Lib.hid hb1
  clear hr hb1
  go_wp2_with fail
  refine (HN1.out w1 W0.heap.size br HI1.out).mono ?_
  rintro e w2 ⟨rfl, hr⟩
  have HI2 := Lib.hid hr.1
  have HB2 := Lib.hid (HB1.out.trans hr.2.1)
  clear hr
  go_wp2_with fail
  refine (HN2.out w2 W0.heap.size br HI2.out).mono ?_
  rintro e w3 ⟨rfl, hr⟩
  have HI3 := Lib.hid hr.1
  have HB3 := Lib.hid (HB2.out.trans hr.2.1)
  clear hr
  go_wp2_with fail
  refine (HN3.out w3 W0.heap.size br HI3.out).mono ?_
  rintro e w4 ⟨rfl, hr⟩
  have HI4 := Lib.hid hr.1
  have HB4 := Lib.hid (HB3.out.trans hr.2.1)
  clear hr
  go_wp2
  go_loopw [8] (fun v wr => ∃ k : Nat, k ≤ M ∧ 63 * k ≤ B ∧ wr.ownsRow W0.heap.size 38 10 v k (encL Pst.cells (Rep.rowsK b k)) ∧ IsR wr W0.heap.size br (stAt b (12 + 63 * k)) ∧ Below W0.heap.size W0 wr) (fun v _ => M - lenV v)
  case atStart => exact ⟨0, Nat.zero_le _, Nat.zero_le _, World.ownsRow_nil _ _ _ _, HI4.out, HB4.out⟩
  case round =>
    obtain ⟨k, hk, hkB, hown, hisr, hbw⟩ := hrel
    have HO := Lib.hid hown; have HI := Lib.hid hisr; have HBW := Lib.hid hbw
    have hls := LS.of_own hown Pst.cells_length (by decide)
    obtain ⟨pk, ck, hvk⟩ := hls.shape
    rw [Rep.rowsK_length] at hvk
    subst hvk
    have hkc : k ≤ ck ∧ ck ≤ 9223372036854775807 := by have h1 := hls.length; simp only [maxLen] at h1; exact ⟨h1.2.1, h1.2.2⟩
    obtain ⟨hkc1, hkc2⟩ := hkc
    have HLS := Lib.hid hls
    clear hown hisr hbw hls
    have HL0 := Lib.hid (HLF.out wr W0.heap.size br k HI.out)
    obtain ⟨L, hL⟩ : ∃ L, B - (12 + 63 * k) = L := ⟨_, rfl⟩
    rw [hL] at HL0
    by_cases hgo : 0 < L ∧ k < M
    · obtain ⟨hg1, hg2⟩ := hgo
      go_wp2_with fail
      refine HL0.out.mono ?_
      rintro e w5 ⟨rfl, nd, rfl⟩
      have HI5 := Lib.hid (HI.out.drewN nd)
      have HO5 := Lib.hid (recs_below HO.out (below_drewN wr nd))
      have HB5 : Hid (Below W0.heap.size W0 (wr.drewN nd)) := Lib.hid (HBW.out.trans ⟨rfl, rfl, rfl, Nat.le_refl _, fun _ _ => rfl⟩)
      generalize wr.drewN nd = w5 at *
      go_wp2_with fail
      refine (HBY.out w5 W0.heap.size br k HI5.out).mono ?_
      rintro e w6 ⟨cv, rfl, hcv, hr⟩
      have HCV := Lib.hid (BS.of_own hcv)
      have HI6 := Lib.hid hr.1
      have HB6 := Lib.hid (HB5.out.trans hr.2.1)
      have HO6 := Lib.hid (rows_kept HO5.out (by decide) hr.2.2)
      clear hcv hr
      go_wp2_with fail
      refine (HPO.out k cv w6 HCV.out).mono ?_
      rintro e w7 ⟨rfl, hb7⟩
      have HI7 := Lib.hid (HI6.out.below hb7)
      have HO7 := Lib.hid (recs_below HO6.out hb7)
      have HB7 := Lib.hid (HB6.out.trans (hb7.mono HB6.out.size))
      clear hb7
      by_cases hq : (Rep.chunk b k).length = 63 ∧ (pOf (Rep.chunk b k)).may = true
      · rw [if_pos hq, if_pos hq]
        have HKB : Hid (63 * (k + 1) ≤ B) := Lib.hid (by have := (HCL.out k).1 hq.1; omega)
        obtain ⟨x, hx⟩ : ∃ x, pOf (Rep.chunk b k) = x := ⟨_, rfl⟩
        have HT : Hid (Rep.rowsK b (k + 1) = Rep.rowsK b k ++ [x]) := Lib.hid (by rw [Rep.rowsK_succ, hx])
        rw [hx, show x.cells.toArray = (#[.int .i64 x.d, .int .u64 x.t, .int .i64 x.s, .int .i64 x.k, .int .i64 x.a0, .int .i64 x.a1, .int .i64 x.a2, .int .i64 x.a3, .int .i64 x.a4, .int .i64 x.a5] : Array Value) from rfl]
        have HA8 := Lib.hid ((Below.refl w7.heap.size w7).alloc (Nat.le_refl _) (.cells #[.int .i64 x.d, .int .u64 x.t, .int .i64 x.s, .int .i64 x.k, .int .i64 x.a0, .int .i64 x.a1, .int .i64 x.a2, .int .i64 x.a3, .int .i64 x.a4, .int .i64 x.a5] 38 (0, 0)))
        have HI8 := Lib.hid (HI7.out.below HA8.out)
        have HO8 := Lib.hid (recs_below HO7.out HA8.out)
        have HB8 := Lib.hid (HB7.out.trans (HA8.out.mono HB7.out.size))
        have hrow8 := new_row w7 (.cells #[.int .i64 x.d, .int .u64 x.t, .int .i64 x.s, .int .i64 x.k, .int .i64 x.a0, .int .i64 x.a1, .int .i64 x.a2, .int .i64 x.a3, .int .i64 x.a4, .int .i64 x.a5] 38 (0, 0)) _ rfl
        have hc8 := fun j => cell_of_row _ w7.heap.size j _ _ _ hrow8
        clear hq hx hrow8
        go_wp2_with (at_builtin; refine wpList_append_recs elemP rfl _ _ rfl W0.heap.size (.slice pk k ck) k (Rep.rowsK b k) rfl ?co _ [x] rfl ?cp ?ca ?cb ?_)
        case co => exact recs_below HO8.out ((Below.refl _ _).alloc (Nat.le_refl _) _)
        case cp => exact row_one (x := x) (new_rowW _ _ _ (by simp)) rfl Pst.cells_length (by decide)
        case ca => have := HLEN.out; simp <;> omega
        case cb => have := HB7.out.size; simp; omega
        intro v2 w2 hown2 hg2 hn2 hat2
        have HA9 := Lib.hid (HA8.out.alloc HA8.out.size (.cells #[.int .i64 x.d, .int .u64 x.t, .int .i64 x.s, .int .i64 x.k, .int .i64 x.a0, .int .i64 x.a1, .int .i64 x.a2, .int .i64 x.a3, .int .i64 x.a4, .int .i64 x.a5] 38 (0, 0)))
        have HO9 := Lib.hid (recs_below HO7.out HA9.out)
        have HI9 : Hid (IsR w2 W0.heap.size br (stAt b (12 + 63 * (k + 1)))) := Lib.hid ((HI7.out.below HA9.out).keptU (by decide) (by decide) (kept_rows HO9.out hg2))
        have HB9 : Hid (Below W0.heap.size W0 w2) := Lib.hid ((HB7.out.trans (HA9.out.mono HB7.out.size)).grown hg2 (by have := HB7.out.size; simp <;> omega) (fun b hb => (recs_base HO9.out hb).1))
        have HO2 : Hid (w2.ownsRow W0.heap.size 38 10 v2 (k + 1) (encL Pst.cells (Rep.rowsK b (k + 1)))) := Lib.hid (by rw [HT.out]; exact hown2)
        clear hown2 hg2 hn2 hat2 hc8
        go_wp2
        go_roundw
        case rel => exact ⟨k + 1, by omega, HKB.out, HO2.out, HI9.out, HB9.out⟩
        case measure =>
          obtain ⟨q2, c2, hv2⟩ := (LS.of_own HO2.out Pst.cells_length (by decide)).shape
          rw [hv2]
          simp [lenV, Rep.rowsK_length]; omega
      · rw [if_neg hq, if_neg hq]
        have hbvf : bv = false := by
          cases h : bv
          · rfl
          · exfalso
            obtain ⟨g1, _, g3, _⟩ := HOK.out.1 (HBV.out.1 h)
            exact hq ⟨(HCL.out k).2 (by omega), g3.1 _ (Rep.rowsK_mem hg2)⟩
        rw [show zeroP.cells.toArray = (#[.int .i64 0, .int .u64 0, .int .i64 0, .int .i64 0, .int .i64 0, .int .i64 0, .int .i64 0, .int .i64 0, .int .i64 0, .int .i64 0] : Array Value) from rfl]
        have hrz := (HB7.out.block w.heap.size hlz).trans HRZ.out
        have HZ := Lib.hid (row_alloc hrz (.cells #[.int .i64 0, .int .u64 0, .int .i64 0, .int .i64 0, .int .i64 0, .int .i64 0, .int .i64 0, .int .i64 0, .int .i64 0, .int .i64 0] 38 (0, 0)))
        have hcz := fun j => cell_of_row _ w.heap.size j _ _ _ HZ.out
        have hfz := fun j => frozen_of_row _ w.heap.size j _ _ HZ.out
        have HBF : Hid (Below w.heap.size w w7) := Lib.hid (HBZ.out.trans (HB7.out.mono HBZ.out.size))
        clear hrz hq
        go_wp2
        have hrowF := ten_row HZ.out (.int .i64 0) (.int .i64 0) (.slice none 0 0) (.int .i64 0) (.int .i64 0) (.int .i64 0) (.int .i64 0) (.int .i64 0) (.int .i64 0) (.int .i64 0)
        refine bodyPost_ret (v := .tuple #[.agg #[.int .i64 0, .int .i64 0, .slice none 0 0, .int .i64 0, .int .i64 0, .int .i64 0, .int .i64 0, .int .i64 0, .int .i64 0, .int .i64 0], .int .i64 4]) (by simp [results, Try.results13, go_sem, fun i => cell_of_row _ _ i _ _ _ hrowF]) rfl ⟨ten_below (balloc HBF.out _) (Nat.le_refl _) _ _ _ _ _ _ _ _ _ _, .inl ⟨hbvf, rfl⟩⟩
    · have HEX : Hid (Rep.OkB b → k = M) := Lib.hid (fun h => by have := (HOK.out.1 h).1; omega)
      have hso := Post.sums_fine (Rep.rowsK b k)
      obtain ⟨y0, y1, y2, y3, y4, y5, hx⟩ := Post.six_of hso.1
      obtain ⟨m', hmm⟩ : ∃ m', (Post.sums (Rep.rowsK b k)).m = m' := ⟨_, rfl⟩
      obtain ⟨ev', hev⟩ : ∃ m', (Post.sums (Rep.rowsK b k)).e = m' := ⟨_, rfl⟩
      have hsm : Post.sums (Rep.rowsK b k) = ⟨ev', m', [y0, y1, y2, y3, y4, y5]⟩ := by rw [← hx, ← hmm, ← hev]
      have HSM := Lib.hid hsm
      have HMB := Lib.hid (fun W h => made_bad F T (Rep.rowsK b k) pk k ck W h ev' m' y0 y1 y2 y3 y4 y5 hsm)
      have HMO := Lib.hid (fun W h (he : ev' = 0) => made_ok F T (Rep.rowsK b k) pk k ck W h m' y0 y1 y2 y3 y4 y5 (he ▸ hsm))
      clear hx hmm hev hso
      obtain ⟨qm, hqm⟩ : ∃ qm : Bool, qm = true ↔ k = M := ⟨decide (k = M), by simp⟩
      have HQM := Lib.hid hqm
      have HF0 : Hid (¬ ev' = 0 → bv = false) := Lib.hid (fun hev => by
        cases h : bv
        · rfl
        · exfalso
          have h1 := HBV.out.1 h
          have h2 := (HOK.out.1 h1).2.2.2.2.2
          rw [← HEX.out h1, hsm] at h2
          exact hev h2)
      have HF1 : Hid (¬ (B = 12 + 63 * k ∧ k = M) → bv = false) := Lib.hid (fun hev => by
        cases h : bv
        · rfl
        · exfalso
          have h1 := HBV.out.1 h
          have h2 := (HOK.out.1 h1).1
          rw [← HEX.out h1] at h2
          exact hev ⟨h2, HEX.out h1⟩)
      have HEQ : Hid (k = M → m' = m ∧ y0 = x0 ∧ y1 = x1 ∧ y2 = x2 ∧ y3 = x3 ∧ y4 = x4 ∧ y5 = x5) := Lib.hid (fun h => by
        have h1 := HSUM.out
        rw [← h, hsm] at h1
        injection h1 with e1 e2 e3
        simp only [List.cons.injEq, and_true] at e3
        exact ⟨e2, e3⟩)
      have HQ : Hid (k = M → B = 12 + 63 * k → ev' = 0 → (bv = true ↔ Rep.MayP F T (Rep.rowsK b k) m' [y0, y1, y2, y3, y4, y5])) := Lib.hid (fun h1 h2 h3 => by
        rw [HBV.out, HOK.out, ← h1]
        constructor
        · rintro ⟨g1, g2, g3, g4, g5, g6⟩
          exact ⟨g2, g3, g4, g5, by rw [hsm, h3]⟩
        · rintro ⟨g2, g3, g4, g5, g6⟩
          exact ⟨h2, g2, g3, g4, g5, by rw [g6]⟩)
      clear hsm hqm
      rcases (by omega : L = 0 ∨ (0 < L ∧ ¬ k < M)) with hx | ⟨hx1, hx2⟩
      all_goals
        go_wp2_with fail
        refine HL0.out.mono ?_
        rintro e w5 ⟨rfl, nd, rfl⟩
        have HI5 := Lib.hid (HI.out.drewN nd)
        have HBR5 := Lib.hid (below_drewN wr nd)
        have HLS5 := Lib.hid (ps_of_ls (HLS.out.below (below_drewN wr nd)) (Rep.rowsK_wf b k))
        have HB5 : Hid (Below W0.heap.size W0 (wr.drewN nd)) := Lib.hid (HBW.out.trans ⟨rfl, rfl, rfl, Nat.le_refl _, fun _ _ => rfl⟩)
        generalize wr.drewN nd = w5 at *
        go_wp2_with fail
        by_cases hev : ev' = 0
        · refine (HMO.out w5 HLS5.out hev).mono ?_
          rintro e w6 ⟨rfl, hb6⟩
          have HB6 := Lib.hid (HB5.out.trans (hb6.mono HB5.out.size))
          have HBR6 := Lib.hid (HBR5.out.trans (hb6.mono HBR5.out.size))
          have hrz := (HB6.out.block w.heap.size hlz).trans HRZ.out
          have HZ := Lib.hid (row_alloc hrz (.cells #[.int .i64 F, .int .i64 T, (.slice pk k ck), .int .i64 m', .int .i64 y0, .int .i64 y1, .int .i64 y2, .int .i64 y3, .int .i64 y4, .int .i64 y5] 27 (0, 0)))
          have HA := Lib.hid (new_row w6 (.cells #[.int .i64 F, .int .i64 T, (.slice pk k ck), .int .i64 m', .int .i64 y0, .int .i64 y1, .int .i64 y2, .int .i64 y3, .int .i64 y4, .int .i64 y5] 27 (0, 0)) _ rfl)
          have HLA := Lib.hid ((HLS5.out.below hb6).below ((Below.refl _ _).alloc (Nat.le_refl _) (.cells #[.int .i64 F, .int .i64 T, (.slice pk k ck), .int .i64 m', .int .i64 y0, .int .i64 y1, .int .i64 y2, .int .i64 y3, .int .i64 y4, .int .i64 y5] 27 (0, 0))))
          have HIA := Lib.hid ((HI5.out.below hb6).below ((Below.refl _ _).alloc (Nat.le_refl _) (.cells #[.int .i64 F, .int .i64 T, (.slice pk k ck), .int .i64 m', .int .i64 y0, .int .i64 y1, .int .i64 y2, .int .i64 y3, .int .i64 y4, .int .i64 y5] 27 (0, 0))))
          have HBA : Hid (Below w.heap.size w (w6.alloc (.cells #[.int .i64 F, .int .i64 T, (.slice pk k ck), .int .i64 m', .int .i64 y0, .int .i64 y1, .int .i64 y2, .int .i64 y3, .int .i64 y4, .int .i64 y5] 27 (0, 0)))) := Lib.hid (balloc (HBZ.out.trans (HB6.out.mono HBZ.out.size)) _)
          have HBRA := Lib.hid (balloc HBR6.out (.cells #[.int .i64 F, .int .i64 T, (.slice pk k ck), .int .i64 m', .int .i64 y0, .int .i64 y1, .int .i64 y2, .int .i64 y3, .int .i64 y4, .int .i64 y5] 27 (0, 0)))
          clear hrz hb6
          go_wp2_with fail
          refine (HEN.out _ W0.heap.size br k HIA.out).mono ?_
          rintro e w7 ⟨rfl, nd, rfl⟩
          generalize w6.alloc (.cells #[.int .i64 F, .int .i64 T, (.slice pk k ck), .int .i64 m', .int .i64 y0, .int .i64 y1, .int .i64 y2, .int .i64 y3, .int .i64 y4, .int .i64 y5] 27 (0, 0)) = w7 at *
          have HG6 : Hid (¬ w6.heap.size = w.heap.size) := Lib.hid (by have := HB6.out.size; omega)
          generalize w6.heap.size = g6 at *
          by_cases hE : B = 12 + 63 * k
          · try (exfalso; omega)
            all_goals
              rw [if_pos hE]
              cases qm
              · have hne : ¬ k = M := fun h => by have := HQM.out.2 h; cases this
                have hbvf := HF1.out (fun h => hne h.2)
                have hcz := fun j => cell_of_row (w7.drewN nd) w.heap.size j _ _ _ (show (w7.drewN nd).heap[w.heap.size]? = _ from HZ.out)
                have hfz := fun j => frozen_of_row (w7.drewN nd) w.heap.size j _ _ (show (w7.drewN nd).heap[w.heap.size]? = _ from HZ.out)
                have HBF : Hid (Below w.heap.size w (w7.drewN nd)) := Lib.hid (HBA.out.trans ⟨rfl, rfl, rfl, Nat.le_refl _, fun _ _ => rfl⟩)
                have HZ7 : Hid ((w7.drewN nd).heap[w.heap.size]? = _) := Lib.hid HZ.out
                go_wp2
                have hrowF := ten_row HZ7.out (.int .i64 0) (.int .i64 0) (.slice none 0 0) (.int .i64 0) (.int .i64 0) (.int .i64 0) (.int .i64 0) (.int .i64 0) (.int .i64 0) (.int .i64 0)
                refine bodyPost_ret (v := .tuple #[.agg #[.int .i64 0, .int .i64 0, .slice none 0 0, .int .i64 0, .int .i64 0, .int .i64 0, .int .i64 0, .int .i64 0, .int .i64 0, .int .i64 0], .int .i64 4]) (by simp [results, Try.results13, go_sem, fun i => cell_of_row _ _ i _ _ _ hrowF]) rfl ⟨ten_below HBF.out (Nat.le_refl _) _ _ _ _ _ _ _ _ _ _, .inl ⟨hbvf, rfl⟩⟩
              · have hkm := HQM.out.1 rfl
                obtain ⟨e1, e2, e3, e4, e5, e6, e7⟩ := HEQ.out hkm
                subst e1 e2 e3 e4 e5 e6 e7
                have HMY := Lib.hid (fun W h => pMay_any F T (Rep.rowsK b k) pk k ck m' y0 y1 y2 y3 y4 y5 bv (HQ.out hkm hE hev) W h)
                subst hkm
                have hcA := fun j => cell_of_row (w7.drewN nd) g6 j _ _ _ (show (w7.drewN nd).heap[g6]? = _ from HA.out)
                go_wp2_with fail
                refine (HMY.out _ (HLA.out.below (below_drewN w7 nd))).mono ?_
                rintro e w8 ⟨rfl, hb8⟩
                have HB78 : Hid (Below w7.heap.size w7 w8) := Lib.hid ((below_drewN w7 nd).trans hb8)
                have hz8 := (HB78.out.block w.heap.size (block_lt HZ.out)).trans HZ.out
                have hA8 := (HB78.out.block g6 (block_lt HA.out)).trans HA.out
                have HZ8 := Lib.hid hz8
                have hcz := fun j => cell_of_row w8 w.heap.size j _ _ _ hz8
                have hfz := fun j => frozen_of_row w8 w.heap.size j _ _ hz8
                have hcA := fun j => cell_of_row w8 g6 j _ _ _ hA8
                have HBF : Hid (Below w.heap.size w w8) := Lib.hid (HBA.out.trans (HB78.out.mono HBA.out.size))
                have HBR8 : Hid (Below wr.heap.size wr w8) := Lib.hid (HBRA.out.trans (HB78.out.mono HBRA.out.size))
                have hne6 : ¬ g6 = w.heap.size := HG6.out
                clear hz8 hA8 hb8
                cases bv
                · go_wp2
                  have hrowF := ten_row HZ8.out (.int .i64 0) (.int .i64 0) (.slice none 0 0) (.int .i64 0) (.int .i64 0) (.int .i64 0) (.int .i64 0) (.int .i64 0) (.int .i64 0) (.int .i64 0)
                  refine bodyPost_ret (v := .tuple #[.agg #[.int .i64 0, .int .i64 0, .slice none 0 0, .int .i64 0, .int .i64 0, .int .i64 0, .int .i64 0, .int .i64 0, .int .i64 0, .int .i64 0], .int .i64 4]) (by simp [results, Try.results13, go_sem, fun i => cell_of_row _ _ i _ _ _ hrowF]) rfl ⟨ten_below HBF.out (Nat.le_refl _) _ _ _ _ _ _ _ _ _ _, rfl⟩
                · go_wp2
                  have hrowF := ten_row HZ8.out (.int .i64 F) (.int .i64 T) (.slice pk k ck) (.int .i64 m') (.int .i64 y0) (.int .i64 y1) (.int .i64 y2) (.int .i64 y3) (.int .i64 y4) (.int .i64 y5)
                  refine bodyPost_ret (v := .tuple #[.agg #[.int .i64 F, .int .i64 T, (.slice pk k ck), .int .i64 m', .int .i64 y0, .int .i64 y1, .int .i64 y2, .int .i64 y3, .int .i64 y4, .int .i64 y5], .int .i64 0]) (by simp [results, Try.results13, go_sem, fun i => cell_of_row _ _ i _ _ _ hrowF]) rfl ⟨ten_below HBF.out (Nat.le_refl _) _ _ _ _ _ _ _ _ _ _, _, ?_, rfl⟩
                  exact LS.of_own (own_only HO.out HBR8.out (ten_only (.refl _ _) _ _ _ _ _ _ _ _ _ _) hlz (Nat.le_refl _)) Pst.cells_length (by decide)
          · rw [if_neg hE]
            have hbvf := HF1.out (fun h => hE h.1)
            have hcz := fun j => cell_of_row (w7.drewN nd) w.heap.size j _ _ _ (show (w7.drewN nd).heap[w.heap.size]? = _ from HZ.out)
            have hfz := fun j => frozen_of_row (w7.drewN nd) w.heap.size j _ _ (show (w7.drewN nd).heap[w.heap.size]? = _ from HZ.out)
            have HBF : Hid (Below w.heap.size w (w7.drewN nd)) := Lib.hid (HBA.out.trans ⟨rfl, rfl, rfl, Nat.le_refl _, fun _ _ => rfl⟩)
            have HZ7 : Hid ((w7.drewN nd).heap[w.heap.size]? = _) := Lib.hid HZ.out
            go_wp2
            have hrowF := ten_row HZ7.out (.int .i64 0) (.int .i64 0) (.slice none 0 0) (.int .i64 0) (.int .i64 0) (.int .i64 0) (.int .i64 0) (.int .i64 0) (.int .i64 0) (.int .i64 0)
            refine bodyPost_ret (v := .tuple #[.agg #[.int .i64 0, .int .i64 0, .slice none 0 0, .int .i64 0, .int .i64 0, .int .i64 0, .int .i64 0, .int .i64 0, .int .i64 0, .int .i64 0], .int .i64 4]) (by simp [results, Try.results13, go_sem, fun i => cell_of_row _ _ i _ _ _ hrowF]) rfl ⟨ten_below HBF.out (Nat.le_refl _) _ _ _ _ _ _ _ _ _ _, .inl ⟨hbvf, rfl⟩⟩
        · have hbvf := HF0.out hev
          refine (HMB.out w5 HLS5.out hev).mono ?_
          rintro e w6 ⟨rfl, hb6⟩
          have HB6 := Lib.hid (HB5.out.trans (hb6.mono HB5.out.size))
          have hrz := (HB6.out.block w.heap.size hlz).trans HRZ.out
          have HZ := Lib.hid (row_alloc hrz (.cells #[.int .i64 0, .int .i64 0, .slice none 0 0, .int .i64 0, .int .i64 0, .int .i64 0, .int .i64 0, .int .i64 0, .int .i64 0, .int .i64 0] 27 (0, 0)))
          have hcz := fun j => cell_of_row _ w.heap.size j _ _ _ HZ.out
          have hfz := fun j => frozen_of_row _ w.heap.size j _ _ HZ.out
          have HBF : Hid (Below w.heap.size w w6) := Lib.hid (HBZ.out.trans (HB6.out.mono HBZ.out.size))
          clear hrz hb6
          go_wp2
          have hrowF := ten_row HZ.out (.int .i64 0) (.int .i64 0) (.slice none 0 0) (.int .i64 0) (.int .i64 0) (.int .i64 0) (.int .i64 0) (.int .i64 0) (.int .i64 0) (.int .i64 0)
          refine bodyPost_ret (v := .tuple #[.agg #[.int .i64 0, .int .i64 0, .slice none 0 0, .int .i64 0, .int .i64 0, .int .i64 0, .int .i64 0, .int .i64 0, .int .i64 0, .int .i64 0], .int .i64 4]) (by simp [results, Try.results13, go_sem, fun i => cell_of_row _ _ i _ _ _ hrowF]) rfl ⟨ten_below (balloc HBF.out _) (Nat.le_refl _) _ _ _ _ _ _ _ _ _ _, .inl ⟨hbvf, rfl⟩⟩
end Go.Proofs.Ytolfekbhlfjniaa

set_option linter.unusedVariables false
set_option linter.unusedSimpArgs false
namespace Go.Proofs.Ytolfekbhlfjniaa
open Go.RowKit

theorem mine_only {w W : World} {base g : Nat} {v : Value} {l : List Pst} (h : Mine Pst.cells 10 w base v l) (ho : Only g w W) (hg : g < base) : Mine Pst.cells 10 W base v l := by
  rcases h with ⟨h1, h2⟩ | ⟨b, cap, rfl, h1, h2, hc, hx, hr⟩
  · exact .inl ⟨h1, h2⟩
  · exact .inr ⟨b, cap, rfl, h1, Nat.lt_of_lt_of_le h2 ho.size, hc, hx, hr.block (ho.block b h2 (by omega))⟩
theorem IsC.above {w w' : World} {base g B : Nat} {st : Option (List UInt8)} (h : IsC w base g st) (hb : Below B w w') (hg : g < B) : IsC w' base g st := by
  have hlt := h.lt
  obtain ⟨h0, v, b, bad, h1, h2, h3⟩ := h
  exact ⟨h0, v, b, bad, (hb.block g hg).trans h1, fun W hW => h2 W ((hb.mono (by omega)).trans hW), h3⟩

set_option maxRecDepth 4000 in
set_option maxHeartbeats 40000000 in
theorem rrOf_any (v : Value) (b : List UInt8) (hlen : b.length ≤ 5000) (bv : Bool) (hbv : bv = true ↔ Rep.OkB b) (ev m x0 x1 x2 x3 x4 x5 : Int) (hsum : Post.sums (Rep.rowsK b (Rep.manyB b)) = ⟨ev, m, [x0, x1, x2, x3, x4, x5]⟩) (w : World) (hv : BS w v b) :
    Calls Try.prog 14 #[v] w fun e w' => Below w.heap.size w w' ∧ (bv = false ∧ e = .returned (.tuple #[.agg #[.int .i64 0, .int .i64 0, .slice none 0 0, .int .i64 0, .int .i64 0, .int .i64 0, .int .i64 0, .int .i64 0, .int .i64 0, .int .i64 0], .bool false]) ∨ bv = true ∧ ∃ rv, LS Pst.cells 10 w' rv (Rep.rowsK b (Rep.manyB b)) ∧ e = .returned (.tuple #[.agg #[.int .i64 (Rep.frB b), .int .i64 (Rep.toB b), rv, .int .i64 m, .int .i64 x0, .int .i64 x1, .int .i64 x2, .int .i64 x3, .int .i64 x4, .int .i64 x5], .bool true])) := by
  have HN1 : Hid (∀ (W : World) (base g : Nat), IsC W base g (stAt b 0) → Calls Try.prog 42 #[.pointer (some ⟨g, 0, none⟩), .int .i64 4] W fun e w' => e = .returned (.int .u64 (Rep.frB b)) ∧ CStep W w' base g (stAt b 4)) := Lib.hid (fun W base g h => by
    have := cTake_any base g _ 4 W h
    rwa [show (4 : Int) = ((4 : Nat) : Int) from rfl, stAt_num b 0 4 (by omega)] at this)
  have HN2 : Hid (∀ (W : World) (base g : Nat), IsC W base g (stAt b 4) → Calls Try.prog 42 #[.pointer (some ⟨g, 0, none⟩), .int .i64 4] W fun e w' => e = .returned (.int .u64 (Rep.toB b)) ∧ CStep W w' base g (stAt b 8)) := Lib.hid (fun W base g h => by
    have := cTake_any base g _ 4 W h
    rwa [show (4 : Int) = ((4 : Nat) : Int) from rfl, stAt_num b 4 4 (by omega)] at this)
  have HN3 : Hid (∀ (W : World) (base g : Nat), IsC W base g (stAt b 8) → Calls Try.prog 42 #[.pointer (some ⟨g, 0, none⟩), .int .i64 4] W fun e w' => e = .returned (.int .u64 (Rep.manyB b : Nat)) ∧ CStep W w' base g (stAt b (12 + 63 * 0))) := Lib.hid (fun W base g h => by
    have := cTake_any base g _ 4 W h
    rwa [show (4 : Int) = ((4 : Nat) : Int) from rfl, stAt_num b 8 4 (by omega)] at this)
  have HCU : Hid (∀ (W : World) (base g k : Nat), IsC W base g (stAt b (12 + 63 * k)) → Calls Try.prog 44 #[.pointer (some ⟨g, 0, none⟩), .int .i64 63] W fun e w' => ∃ x, e = .returned x ∧ (∀ W', Below base w' W' → BS W' x (Rep.chunk b k)) ∧ CStep W w' base g (stAt b (12 + 63 * (k + 1)))) := Lib.hid (fun W base g k h => by
    have := cCut_any base g _ 63 W h
    rwa [show (63 : Int) = ((63 : Nat) : Int) from rfl, Rep.stAt_cut b (12 + 63 * k) 63] at this)
  have hh := Rep.headB b
  have h1 := hh.1
  have h2 := hh.2.1
  have h3 := hh.2.2
  have z1 : IntKind.i64.wrap (Rep.frB b) = Rep.frB b := by rw [IntKind.wrap_i64]; omega
  have z2 : IntKind.i64.wrap (Rep.toB b) = Rep.toB b := by rw [IntKind.wrap_i64]; omega
  have z3 : IntKind.i64.wrap ((Rep.manyB b : Nat) : Int) = ((Rep.manyB b : Nat) : Int) := by rw [IntKind.wrap_i64]; omega
  have HV := Lib.hid hv
  have HBV := Lib.hid hbv
  have HSUM := Lib.hid hsum
  have HLEN := Lib.hid hlen
  clear hh hbv hsum hlen
  obtain ⟨p, cap, rfl, g1, g2, -⟩ := hv
  have HOK : Hid (Rep.OkB b ↔ b.length = 12 + 63 * Rep.manyB b ∧ Rep.days (Rep.frB b) (Rep.toB b) = true ∧ Rep.FineP (Rep.rowsK b (Rep.manyB b)) ∧ (∀ z ∈ Rep.rowsK b (Rep.manyB b), Rep.within (Rep.frB b) (Rep.toB b) z = true) ∧ Srt.Up keyP (Rep.rowsK b (Rep.manyB b)) ∧ (Post.sums (Rep.rowsK b (Rep.manyB b))).e = 0) := Lib.hid Iff.rfl
  have HCL := Lib.hid (fun k => Rep.chunk_len b k)
  have HPO := Lib.hid (fun k v W h => rOf14_any v (Rep.chunk b k) W h)
  have HS0 := Lib.hid (stAt_zero b)
  have HST : Hid (∀ b', stAt b (12 + 63 * 0) = some b' → 12 ≤ b.length ∧ b'.length = b.length - 12) := Lib.hid (fun b' h => by
    unfold stAt at h
    split at h
    · injection h with h
      subst h
      rw [List.length_drop]
      exact ⟨by omega, by omega⟩
    · cases h)
  have HSN : Hid (stAt b (12 + 63 * 0) = none → b.length < 12) := Lib.hid (fun h => by
    unfold stAt at h
    split at h
    · cases h
    · omega)
  generalize Rep.frB b = F at *
  generalize Rep.toB b = T at *
  generalize Rep.manyB b = M at *
  generalize b.length = B at *
  go_enter Try.func14, Try.ntmps14
  have hb0 := ((Below.refl w.heap.size w).alloc (Nat.le_refl _) (.cells #[.int .i64 0, .int .i64 0, .slice none 0 0, .int .i64 0, .int .i64 0, .int .i64 0, .int .i64 0, .int .i64 0, .int .i64 0, .int .i64 0] 27 (0, 0))).alloc (by simp) (.cells #[.slice p B cap, .bool false] 80 (0, 0))
  have hrz := row_alloc (new_row w (.cells #[.int .i64 0, .int .i64 0, .slice none 0 0, .int .i64 0, .int .i64 0, .int .i64 0, .int .i64 0, .int .i64 0, .int .i64 0, .int .i64 0] 27 (0, 0)) _ rfl) (.cells #[.slice p B cap, .bool false] 80 (0, 0))
  have hrc := new_row (w.alloc (.cells #[.int .i64 0, .int .i64 0, .slice none 0 0, .int .i64 0, .int .i64 0, .int .i64 0, .int .i64 0, .int .i64 0, .int .i64 0, .int .i64 0] 27 (0, 0))) (.cells #[.slice p B cap, .bool false] 80 (0, 0)) (w.heap.size + 1) (by simp)
  have hsz : ((w.alloc (.cells #[.int .i64 0, .int .i64 0, .slice none 0 0, .int .i64 0, .int .i64 0, .int .i64 0, .int .i64 0, .int .i64 0, .int .i64 0, .int .i64 0] 27 (0, 0))).alloc (.cells #[.slice p B cap, .bool false] 80 (0, 0))).heap.size = w.heap.size + 2 := by simp
  go_wp2_with fail
  generalize (w.alloc (.cells #[.int .i64 0, .int .i64 0, .slice none 0 0, .int .i64 0, .int .i64 0, .int .i64 0, .int .i64 0, .int .i64 0, .int .i64 0, .int .i64 0] 27 (0, 0))).alloc (.cells #[.slice p B cap, .bool false] 80 (0, 0)) = W1 at *
  have HSZ := Lib.hid hsz; have HB0 := Lib.hid hb0; have HRZ := Lib.hid hrz
  have HI1 : Hid (IsC W1 (w.heap.size + 1) (w.heap.size + 1) (stAt b 0)) := Lib.hid ⟨Nat.le_refl _, _, b, false, hrc, fun W hW => HV.out.below (hb0.trans (hW.mono (Nat.le_succ _))), HS0.out⟩
  clear hb0 hrz hrc hsz
  refine (HN1.out W1 _ _ HI1.out).mono ?_
  rintro e w2 ⟨rfl, hr⟩
  have HI2 := Lib.hid hr.1; have HO2 := Lib.hid hr.2.1; have HZ2 : Hid (w2.heap.size = w.heap.size + 2) := Lib.hid (hr.2.2.trans HSZ.out)
  clear hr
  go_wp2_with fail
  refine (HN2.out w2 _ _ HI2.out).mono ?_
  rintro e w3 ⟨rfl, hr⟩
  have HI3 := Lib.hid hr.1; have HO3 := Lib.hid (HO2.out.trans hr.2.1); have HZ3 : Hid (w3.heap.size = w.heap.size + 2) := Lib.hid (hr.2.2.trans HZ2.out)
  clear hr
  go_wp2_with fail
  refine (HN3.out w3 _ _ HI3.out).mono ?_
  rintro e w4 ⟨rfl, hr⟩
  have HI4 := Lib.hid hr.1; have HO4 := Lib.hid (HO3.out.trans hr.2.1); have HZ4 : Hid (w4.heap.size = w.heap.size + 2) := Lib.hid (hr.2.2.trans HZ3.out)
  clear hr
  obtain ⟨-, v4, b4, bad, hrow4, hbs4, hst4⟩ := HI4.out
  have hrz4 := (HO4.out.block w.heap.size (by have := HSZ.out; omega) (by omega)).trans HRZ.out
  have HRZ4 := Lib.hid hrz4
  have HB4 : Hid (Below w.heap.size w w4) := Lib.hid (Only.below HB0.out (Nat.le_succ _) (by have := HSZ.out; omega) HO4.out)
  have hc4 := fun j => cell_of_row w4 (w.heap.size + 1) j _ _ _ hrow4
  have hcz := fun j => cell_of_row w4 w.heap.size j _ _ _ hrz4
  have hfz := fun j => frozen_of_row w4 w.heap.size j _ _ hrz4
  have hnz : ¬ w.heap.size + 1 = w.heap.size := by omega
  have HGE : Hid (w.heap.size + 2 = (w.heap.size + 1) + 1) := Lib.hid rfl
  have HGT : Hid (w.heap.size < w.heap.size + 1) := Lib.hid (Nat.lt_succ_self _)
  generalize w.heap.size + 1 = g at *
  clear hrow4 hrz4
  cases bad
  · obtain ⟨h12, hlen4⟩ := HST.out b4 hst4
    obtain ⟨p4, c4, rfl, hc41, hc42, -⟩ := hbs4 w4 (Below.refl _ _)
    unfold maxLen at hc42
    obtain ⟨n4, hn4⟩ : ∃ n, b4.length = n := ⟨_, rfl⟩
    rw [hn4] at hlen4 hc41 hc4
    obtain rfl : B = 12 + n4 := by omega
    clear hlen4 hst4 hbs4

    clear hn4 h12
    by_cases hm : (n4 : Int) % 63 = 0
    · obtain ⟨q, hq⟩ : ∃ q, ((n4 : Int) / 63 != (M : Int)) = q := ⟨_, rfl⟩
      cases q
      · have HNM : Hid (n4 = 63 * M) := Lib.hid (by
          have : (n4 : Int) / 63 = (M : Int) := by simpa using hq
          omega)
        go_wp2
        clear hc4 hcz hfz hm hq
        go_loopw [8, 9] (fun v i wr => ∃ k : Nat, k ≤ M ∧ i = .int .i64 k ∧ wr.ownsRow (g + 1) 38 10 v k (encL Pst.cells (Rep.rowsK b k)) ∧ IsC wr g g (stAt b (12 + 63 * k)) ∧ Below g w4 wr) (fun _ i _ => M - (intOf i).toNat)
        case atStart => exact ⟨0, Nat.zero_le _, rfl, World.ownsRow_nil _ _ _ _, HI4.out, Below.refl _ _⟩
        case round =>
          obtain ⟨k, hk, rfl, hown, hisc, hbw⟩ := hrel
          have HO := Lib.hid hown; have HI := Lib.hid hisc; have HBW := Lib.hid hbw
          have hls := LS.of_own hown Pst.cells_length (by decide)
          obtain ⟨pk, ck, hvk⟩ := hls.shape
          rw [Rep.rowsK_length] at hvk
          subst hvk
          have hkc : k ≤ ck ∧ ck ≤ 9223372036854775807 := by have h1 := hls.length; simp only [maxLen] at h1; exact ⟨h1.2.1, h1.2.2⟩
          obtain ⟨hkc1, hkc2⟩ := hkc
          have HLS := Lib.hid hls
          have HGW : Hid (g + 1 ≤ wr.heap.size) := Lib.hid (by have := hbw.size; have := HZ4.out; have := HGE.out; omega)
          clear hown hisc hbw hls
          by_cases hkM : k < M
          · go_wp2_with fail
            refine (HCU.out wr g g k HI.out).mono ?_
            rintro e w5 ⟨xv, rfl, hxv, hr⟩
            have HI5 := Lib.hid hr.1
            have HXV := Lib.hid (hxv w5 (Below.refl _ _))
            have HB5 := Lib.hid (HBW.out.trans (only_below hr.2.1 (Nat.le_refl _) (by have := HGW.out; omega)))
            have HO5 := Lib.hid (own_only HO.out (Below.refl _ _) hr.2.1 (Nat.lt_succ_self _) (Nat.le_refl _))
            have HG5 : Hid (g + 1 ≤ w5.heap.size) := Lib.hid (by rw [hr.2.2]; exact HGW.out)
            clear hxv hr
            go_wp2_with fail
            refine (HPO.out k xv w5 HXV.out).mono ?_
            rintro e w6 ⟨rfl, hb6⟩
            have HI6 := Lib.hid (HI5.out.below hb6)
            have HO6 := Lib.hid (recs_below HO5.out hb6)
            have HB6 := Lib.hid (HB5.out.trans (hb6.mono (by have := HG5.out; omega)))
            have HG6 : Hid (g + 1 ≤ w6.heap.size) := Lib.hid (Nat.le_trans HG5.out hb6.size)
            clear hb6
            by_cases hmay : (pOf (Rep.chunk b k)).may = true
            · have hq2 : (Rep.chunk b k).length = 63 ∧ (pOf (Rep.chunk b k)).may = true := ⟨(HCL.out k).2 (by have := HNM.out; omega), hmay⟩
              rw [if_pos hq2, decide_eq_true hq2]
              obtain ⟨x, hx⟩ : ∃ x, pOf (Rep.chunk b k) = x := ⟨_, rfl⟩
              have HT : Hid (Rep.rowsK b (k + 1) = Rep.rowsK b k ++ [x]) := Lib.hid (by rw [Rep.rowsK_succ, hx])
              rw [hx, show x.cells.toArray = (#[.int .i64 x.d, .int .u64 x.t, .int .i64 x.s, .int .i64 x.k, .int .i64 x.a0, .int .i64 x.a1, .int .i64 x.a2, .int .i64 x.a3, .int .i64 x.a4, .int .i64 x.a5] : Array Value) from rfl]
              have HA8 := Lib.hid ((Below.refl w6.heap.size w6).alloc (Nat.le_refl _) (.cells #[.int .i64 x.d, .int .u64 x.t, .int .i64 x.s, .int .i64 x.k, .int .i64 x.a0, .int .i64 x.a1, .int .i64 x.a2, .int .i64 x.a3, .int .i64 x.a4, .int .i64 x.a5] 38 (0, 0)))
              have HO8 := Lib.hid (recs_below HO6.out HA8.out)
              have hrow8 := new_row w6 (.cells #[.int .i64 x.d, .int .u64 x.t, .int .i64 x.s, .int .i64 x.k, .int .i64 x.a0, .int .i64 x.a1, .int .i64 x.a2, .int .i64 x.a3, .int .i64 x.a4, .int .i64 x.a5] 38 (0, 0)) _ rfl
              have hc8 := fun j => cell_of_row _ w6.heap.size j _ _ _ hrow8
              clear hq2 hmay hx hrow8
              go_wp2_with (at_builtin; refine wpList_append_recs elemP rfl _ _ rfl (g + 1) (.slice pk k ck) k (Rep.rowsK b k) rfl ?co _ [x] rfl ?cp ?ca ?cb ?_)
              case co => exact recs_below HO8.out ((Below.refl _ _).alloc (Nat.le_refl _) _)
              case cp => exact row_one (x := x) (new_rowW _ _ _ (by simp)) rfl Pst.cells_length (by decide)
              case ca => have := HLEN.out; have := HNM.out; simp <;> omega
              case cb => have := HG6.out; simp; omega
              intro v2 w2 hown2 hg2 hn2 hat2
              have HA9 := Lib.hid (HA8.out.alloc HA8.out.size (.cells #[.int .i64 x.d, .int .u64 x.t, .int .i64 x.s, .int .i64 x.k, .int .i64 x.a0, .int .i64 x.a1, .int .i64 x.a2, .int .i64 x.a3, .int .i64 x.a4, .int .i64 x.a5] 38 (0, 0)))
              have HO9 := Lib.hid (recs_below HO6.out HA9.out)
              have HBU : Hid (Below (g + 1) w6 w2) := Lib.hid ((HA9.out.mono HG6.out).grown hg2 (by have := HG6.out; simp <;> omega) (fun b hb => (recs_base HO9.out hb).1))
              have HI9 : Hid (IsC w2 g g (stAt b (12 + 63 * (k + 1)))) := Lib.hid (HI6.out.above HBU.out (Nat.lt_succ_self _))
              have HB9 : Hid (Below g w4 w2) := Lib.hid (HB6.out.trans (HBU.out.mono (Nat.le_succ _)))
              have HO2 : Hid (w2.ownsRow (g + 1) 38 10 v2 (k + 1) (encL Pst.cells (Rep.rowsK b (k + 1)))) := Lib.hid (by rw [HT.out]; exact hown2)
              clear hown2 hg2 hn2 hat2 hc8
              go_wp2
              go_roundw
              case rel => exact ⟨k + 1, by omega, by go_num, HO2.out, HI9.out, HB9.out⟩
              case measure => simp [intOf]; omega
            · have hq2 : ¬ ((Rep.chunk b k).length = 63 ∧ (pOf (Rep.chunk b k)).may = true) := fun h => hmay h.2
              rw [if_neg hq2, decide_eq_false hq2]
              have hbvf : bv = false := by
                cases h : bv
                · rfl
                · exact absurd ((HOK.out.1 (HBV.out.1 h)).2.2.1.1 _ (Rep.rowsK_mem hkM)) hmay
              rw [show zeroP.cells.toArray = (#[.int .i64 0, .int .u64 0, .int .i64 0, .int .i64 0, .int .i64 0, .int .i64 0, .int .i64 0, .int .i64 0, .int .i64 0, .int .i64 0] : Array Value) from rfl]
              have hrz := (HB6.out.block w.heap.size HGT.out).trans HRZ4.out
              have HZ := Lib.hid (row_alloc hrz (.cells #[.int .i64 0, .int .u64 0, .int .i64 0, .int .i64 0, .int .i64 0, .int .i64 0, .int .i64 0, .int .i64 0, .int .i64 0, .int .i64 0] 38 (0, 0)))
              have hcz := fun j => cell_of_row _ w.heap.size j _ _ _ HZ.out
              have hfz := fun j => frozen_of_row _ w.heap.size j _ _ HZ.out
              have HBF : Hid (Below w.heap.size w w6) := Lib.hid (HB4.out.trans (HB6.out.mono (Nat.le_of_lt HGT.out)))
              clear hrz hq2 hmay
              go_wp2
              have hrowF := ten_row HZ.out (.int .i64 0) (.int .i64 0) (.slice none 0 0) (.int .i64 0) (.int .i64 0) (.int .i64 0) (.int .i64 0) (.int .i64 0) (.int .i64 0) (.int .i64 0)
              refine bodyPost_ret (v := .tuple #[.agg #[.int .i64 0, .int .i64 0, .slice none 0 0, .int .i64 0, .int .i64 0, .int .i64 0, .int .i64 0, .int .i64 0, .int .i64 0, .int .i64 0], .bool false]) (by simp [results, Try.results14, go_sem, fun i => cell_of_row _ _ i _ _ _ hrowF]) rfl ⟨ten_below (balloc HBF.out _) (Nat.le_refl _) _ _ _ _ _ _ _ _ _ _, .inl ⟨hbvf, rfl⟩⟩
          · have HKM : Hid (k = M) := Lib.hid (by omega)
            have HPS := Lib.hid (ps_of_ls HLS.out (Rep.rowsK_wf b k))
            have HROK : Hid (bv = true ↔ Rep.days F T = true ∧ Rep.FineP (Rep.rowsK b k) ∧ (∀ z ∈ Rep.rowsK b k, Rep.within F T z = true) ∧ Srt.Up keyP (Rep.rowsK b k) ∧ (Post.sums (Rep.rowsK b k)).e = 0) := Lib.hid (by
              rw [HBV.out, HOK.out, ← HKM.out]
              exact ⟨fun h => h.2, fun h => ⟨by have := HNM.out; have := HKM.out; omega, h⟩⟩)
            have HSU : Hid (Post.sums (Rep.rowsK b k) = ⟨ev, m, [x0, x1, x2, x3, x4, x5]⟩) := Lib.hid (by rw [HKM.out]; exact HSUM.out)
            have HRES : Hid (Rep.rowsK b M = Rep.rowsK b k) := Lib.hid (by rw [HKM.out])
            have HNB : Hid (k ≤ 1000000) := Lib.hid (by have := HLEN.out; have := HNM.out; omega)
            have HBWw : Hid (Below w.heap.size w wr) := Lib.hid (HB4.out.trans (HBW.out.mono (Nat.le_of_lt HGT.out)))
            have HRZr := Lib.hid ((HBW.out.block w.heap.size HGT.out).trans HRZ4.out)
            have HGL : Hid (w.heap.size < wr.heap.size) := Lib.hid (by have := HGW.out; have := HGT.out; omega)
            by_cases hd : Rep.days F T = true ∧ Rep.FineP (Rep.rowsK b k)
            · obtain ⟨s, hsd⟩ : ∃ s, s = Srt.isort keyP (Rep.rowsK b k) := ⟨_, rfl⟩
              have hmx := Srt.isort_mix keyP (Rep.rowsK b k)
              have hux := Srt.isort_up keyP (Rep.rowsK b k)
              rw [← hsd] at hmx hux
              have hmf := Rep.Mix.filter hmx (Rep.within F T)
              have huf := Rep.Up.filter hux (Rep.within F T)
              have hso := Post.sums_fine (s.filter (Rep.within F T))
              obtain ⟨y0, y1, y2, y3, y4, y5, hx⟩ := Post.six_of hso.1
              obtain ⟨m', hmm⟩ : ∃ m', (Post.sums (s.filter (Rep.within F T))).m = m' := ⟨_, rfl⟩
              obtain ⟨ev', hev⟩ : ∃ m', (Post.sums (s.filter (Rep.within F T))).e = m' := ⟨_, rfl⟩
              have hsm : Post.sums (s.filter (Rep.within F T)) = ⟨ev', m', [y0, y1, y2, y3, y4, y5]⟩ := by rw [← hx, ← hmm, ← hev]
              have HMK := Lib.hid (fun W h => rMakeR_fit F T (Rep.rowsK b k) pk k ck HNB.out hd.1 hd.2 _ hmf huf ev' m' y0 y1 y2 y3 y4 y5 hsm W h)
              have HQ : Hid (bv = true ↔ ev' = 0 ∧ s.filter (Rep.within F T) = Rep.rowsK b k) := Lib.hid (by
                rw [HROK.out]
                constructor
                · rintro ⟨h1, h2, h3, h4, h5⟩
                  have e : s.filter (Rep.within F T) = Rep.rowsK b k := by
                    have e1 : Srt.Mix keyP ((Rep.rowsK b k).filter (Rep.within F T)) (Rep.rowsK b k) := by rw [Rep.filter_all h3]; exact Srt.Mix.refl _
                    exact huf.only _ _ h4 (hmf.symm.trans e1)
                  rw [← e, hsm] at h5
                  exact ⟨h5, e⟩
                · rintro ⟨h1, e⟩
                  refine ⟨hd.1, hd.2, ?_, e ▸ huf, by rw [← e, hsm]; exact h1⟩
                  intro z hz
                  rw [← e] at hz
                  exact (List.mem_filter.1 hz).2)
              have HEQ : Hid (s.filter (Rep.within F T) = Rep.rowsK b k → m' = m ∧ y0 = x0 ∧ y1 = x1 ∧ y2 = x2 ∧ y3 = x3 ∧ y4 = x4 ∧ y5 = x5) := Lib.hid (fun h => by
                have h1 := HSU.out
                rw [← h, hsm] at h1
                injection h1 with e1 e2 e3
                simp only [List.cons.injEq, and_true] at e3
                exact ⟨e2, e3⟩)
              clear hx hmm hev hso hsm hmf huf hmx hux hsd hd
              generalize s.filter (Rep.within F T) = rows at *
              obtain ⟨q, hq⟩ : ∃ q : Bool, q = true ↔ rows = Rep.rowsK b k := ⟨by classical exact decide (rows = Rep.rowsK b k), by simp⟩
              have HQQ := Lib.hid hq
              clear hq
              go_wp2_with fail
              refine (HMK.out wr HPS.out).mono ?_
              rintro e w5 ⟨v1, hmine, hb5, hcase⟩
              have hls := hmine.ls Pst.cells_length (by decide)
              obtain ⟨p1, c1, hv⟩ := hls.shape
              subst hv
              have HMI := Lib.hid hmine
              have HLS1 := Lib.hid hls
              have HB5 := Lib.hid hb5
              have HBW5 : Hid (Below w.heap.size w w5) := Lib.hid (HBWw.out.trans (hb5.mono (Nat.le_of_lt HGL.out)))
              have HRZ5 := Lib.hid ((hb5.block w.heap.size HGL.out).trans HRZr.out)
              clear hmine hls hb5
              rcases hcase with ⟨he, rfl⟩ | ⟨he, rfl⟩
              · have hrA := new_row w5 (.cells #[.int .i64 F, .int .i64 T, (.slice p1 rows.length c1), .int .i64 m', .int .i64 y0, .int .i64 y1, .int .i64 y2, .int .i64 y3, .int .i64 y4, .int .i64 y5] 27 (0, 0)) _ rfl
                have HRA := Lib.hid hrA
                have HSA := Lib.hid (HLS1.out.alloc (.cells #[.int .i64 F, .int .i64 T, (.slice p1 rows.length c1), .int .i64 m', .int .i64 y0, .int .i64 y1, .int .i64 y2, .int .i64 y3, .int .i64 y4, .int .i64 y5] 27 (0, 0)))
                have HSB := Lib.hid ((HLS.out.below HB5.out).alloc (.cells #[.int .i64 F, .int .i64 T, (.slice p1 rows.length c1), .int .i64 m', .int .i64 y0, .int .i64 y1, .int .i64 y2, .int .i64 y3, .int .i64 y4, .int .i64 y5] 27 (0, 0)))
                have HMA := Lib.hid (HMI.out.below ((Below.refl _ _).alloc (Nat.le_refl _) (.cells #[.int .i64 F, .int .i64 T, (.slice p1 rows.length c1), .int .i64 m', .int .i64 y0, .int .i64 y1, .int .i64 y2, .int .i64 y3, .int .i64 y4, .int .i64 y5] 27 (0, 0))))
                have HZA := Lib.hid (row_alloc HRZ5.out (.cells #[.int .i64 F, .int .i64 T, (.slice p1 rows.length c1), .int .i64 m', .int .i64 y0, .int .i64 y1, .int .i64 y2, .int .i64 y3, .int .i64 y4, .int .i64 y5] 27 (0, 0)))
                have HBA := Lib.hid (balloc HBW5.out (.cells #[.int .i64 F, .int .i64 T, (.slice p1 rows.length c1), .int .i64 m', .int .i64 y0, .int .i64 y1, .int .i64 y2, .int .i64 y3, .int .i64 y4, .int .i64 y5] 27 (0, 0)))
                have hcA := fun j => cell_of_row _ w5.heap.size j _ _ _ hrA
                have hne5 : ¬ w5.heap.size = w.heap.size := by have := HB5.out.size; have := HGL.out; omega
                clear hrA
                go_wp2_with fail
                refine (rSameL_any rows (Rep.rowsK b k) q HQQ.out p1 pk rows.length k c1 ck _ HSA.out HSB.out).mono ?_
                rintro e w6 ⟨rfl, hb6⟩
                have hrA := (hb6.block w5.heap.size (block_lt HRA.out)).trans HRA.out
                have hrZ := (hb6.block w.heap.size (block_lt HZA.out)).trans HZA.out
                have HZ6 := Lib.hid hrZ
                have HB6 := Lib.hid (HBA.out.trans (hb6.mono HBA.out.size))
                have HM6 := Lib.hid (HMA.out.below hb6)
                have hcA := fun j => cell_of_row _ w5.heap.size j _ _ _ hrA
                have hcz := fun j => cell_of_row _ w.heap.size j _ _ _ hrZ
                have hfz := fun j => frozen_of_row _ w.heap.size j _ _ hrZ
                clear hrA hrZ hb6
                generalize w5.heap.size = g5 at *
                cases q
                · have hbvf : bv = false := by
                    cases h : bv
                    · rfl
                    · exact absurd (HQQ.out.2 (HQ.out.1 h).2) (by simp)
                  go_wp2
                  have hrowF := ten_row HZ6.out (.int .i64 0) (.int .i64 0) (.slice none 0 0) (.int .i64 0) (.int .i64 0) (.int .i64 0) (.int .i64 0) (.int .i64 0) (.int .i64 0) (.int .i64 0)
                  refine bodyPost_ret (v := .tuple #[.agg #[.int .i64 0, .int .i64 0, .slice none 0 0, .int .i64 0, .int .i64 0, .int .i64 0, .int .i64 0, .int .i64 0, .int .i64 0, .int .i64 0], .bool false]) (by simp [results, Try.results14, go_sem, fun i => cell_of_row _ _ i _ _ _ hrowF]) rfl ⟨ten_below HB6.out (Nat.le_refl _) _ _ _ _ _ _ _ _ _ _, .inl ⟨hbvf, rfl⟩⟩
                · have hrr := HQQ.out.1 rfl
                  obtain ⟨e1, e2, e3, e4, e5, e6, e7⟩ := HEQ.out hrr
                  subst e1 e2 e3 e4 e5 e6 e7
                  have hbvt : bv = true := HQ.out.2 ⟨he, hrr⟩
                  subst hbvt
                  have HRR := Lib.hid hrr
                  clear hrr
                  go_wp2
                  have hrowF := ten_row HZ6.out (.int .i64 F) (.int .i64 T) (.slice p1 rows.length c1) (.int .i64 m') (.int .i64 y0) (.int .i64 y1) (.int .i64 y2) (.int .i64 y3) (.int .i64 y4) (.int .i64 y5)
                  refine bodyPost_ret (v := .tuple #[.agg #[.int .i64 F, .int .i64 T, (.slice p1 rows.length c1), .int .i64 m', .int .i64 y0, .int .i64 y1, .int .i64 y2, .int .i64 y3, .int .i64 y4, .int .i64 y5], .bool true]) (by simp [results, Try.results14, go_sem, fun i => cell_of_row _ _ i _ _ _ hrowF]) rfl ?_
                  have hls := (mine_only HM6.out (ten_only (.refl _ _) (.int .i64 F) (.int .i64 T) (.slice p1 rows.length c1) (.int .i64 m') (.int .i64 y0) (.int .i64 y1) (.int .i64 y2) (.int .i64 y3) (.int .i64 y4) (.int .i64 y5)) HGL.out).ls Pst.cells_length (by decide)
                  refine ⟨ten_below HB6.out (Nat.le_refl _) _ _ _ _ _ _ _ _ _ _, _, ?_, rfl⟩
                  rw [HRES.out, ← HRR.out]
                  exact hls
              · have hbvf : bv = false := by
                  cases h : bv
                  · rfl
                  · exact absurd (HQ.out.1 h).1 he
                have HZ := Lib.hid (row_alloc HRZ5.out (.cells #[.int .i64 0, .int .i64 0, .slice none 0 0, .int .i64 0, .int .i64 0, .int .i64 0, .int .i64 0, .int .i64 0, .int .i64 0, .int .i64 0] 27 (0, 0)))
                have hcz := fun j => cell_of_row _ w.heap.size j _ _ _ HZ.out
                have hfz := fun j => frozen_of_row _ w.heap.size j _ _ HZ.out
                go_wp2
                have hrowF := ten_row HZ.out (.int .i64 0) (.int .i64 0) (.slice none 0 0) (.int .i64 0) (.int .i64 0) (.int .i64 0) (.int .i64 0) (.int .i64 0) (.int .i64 0) (.int .i64 0)
                refine bodyPost_ret (v := .tuple #[.agg #[.int .i64 0, .int .i64 0, .slice none 0 0, .int .i64 0, .int .i64 0, .int .i64 0, .int .i64 0, .int .i64 0, .int .i64 0, .int .i64 0], .bool false]) (by simp [results, Try.results14, go_sem, fun i => cell_of_row _ _ i _ _ _ hrowF]) rfl ⟨ten_below (balloc HBW5.out _) (Nat.le_refl _) _ _ _ _ _ _ _ _ _ _, .inl ⟨hbvf, rfl⟩⟩
            · have hbvf : bv = false := by
                cases h : bv
                · rfl
                · have h1 := HROK.out.1 h
                  exact absurd ⟨h1.1, h1.2.1⟩ hd
              have HMB := Lib.hid (fun W h => rMakeR_bad F T (Rep.rowsK b k) pk k ck hd W h)
              clear hd
              go_wp2_with fail
              refine (HMB.out wr HPS.out).mono ?_
              rintro e w5 ⟨rfl, hb5⟩
              have HBW5 : Hid (Below w.heap.size w w5) := Lib.hid (HBWw.out.trans (hb5.mono (Nat.le_of_lt HGL.out)))
              have HRZ5 := Lib.hid ((hb5.block w.heap.size HGL.out).trans HRZr.out)
              have HZ := Lib.hid (row_alloc HRZ5.out (.cells #[.int .i64 0, .int .i64 0, .slice none 0 0, .int .i64 0, .int .i64 0, .int .i64 0, .int .i64 0, .int .i64 0, .int .i64 0, .int .i64 0] 27 (0, 0)))
              have hcz := fun j => cell_of_row _ w.heap.size j _ _ _ HZ.out
              have hfz := fun j => frozen_of_row _ w.heap.size j _ _ HZ.out
              clear hb5
              go_wp2
              have hrowF := ten_row HZ.out (.int .i64 0) (.int .i64 0) (.slice none 0 0) (.int .i64 0) (.int .i64 0) (.int .i64 0) (.int .i64 0) (.int .i64 0) (.int .i64 0) (.int .i64 0)
              refine bodyPost_ret (v := .tuple #[.agg #[.int .i64 0, .int .i64 0, .slice none 0 0, .int .i64 0, .int .i64 0, .int .i64 0, .int .i64 0, .int .i64 0, .int .i64 0, .int .i64 0], .bool false]) (by simp [results, Try.results14, go_sem, fun i => cell_of_row _ _ i _ _ _ hrowF]) rfl ⟨ten_below (balloc HBW5.out _) (Nat.le_refl _) _ _ _ _ _ _ _ _ _ _, .inl ⟨hbvf, rfl⟩⟩
      · have hbvf : bv = false := by
          cases h : bv
          · rfl
          · exfalso
            have h1 := (HOK.out.1 (HBV.out.1 h)).1
            have : ¬ (n4 : Int) / 63 = (M : Int) := by simpa using hq
            omega
        go_wp2
        have hrowF := ten_row HRZ4.out (.int .i64 0) (.int .i64 0) (.slice none 0 0) (.int .i64 0) (.int .i64 0) (.int .i64 0) (.int .i64 0) (.int .i64 0) (.int .i64 0) (.int .i64 0)
        refine bodyPost_ret (v := .tuple #[.agg #[.int .i64 0, .int .i64 0, .slice none 0 0, .int .i64 0, .int .i64 0, .int .i64 0, .int .i64 0, .int .i64 0, .int .i64 0, .int .i64 0], .bool false]) (by simp [results, Try.results14, go_sem, fun i => cell_of_row _ _ i _ _ _ hrowF]) rfl ⟨ten_below HB4.out (Nat.le_refl _) _ _ _ _ _ _ _ _ _ _, .inl ⟨hbvf, rfl⟩⟩
    · have hbvf : bv = false := by
        cases h : bv
        · rfl
        · exfalso
          have h1 := (HOK.out.1 (HBV.out.1 h)).1
          omega
      go_wp2
      have hrowF := ten_row HRZ4.out (.int .i64 0) (.int .i64 0) (.slice none 0 0) (.int .i64 0) (.int .i64 0) (.int .i64 0) (.int .i64 0) (.int .i64 0) (.int .i64 0) (.int .i64 0)
      refine bodyPost_ret (v := .tuple #[.agg #[.int .i64 0, .int .i64 0, .slice none 0 0, .int .i64 0, .int .i64 0, .int .i64 0, .int .i64 0, .int .i64 0, .int .i64 0, .int .i64 0], .bool false]) (by simp [results, Try.results14, go_sem, fun i => cell_of_row _ _ i _ _ _ hrowF]) rfl ⟨ten_below HB4.out (Nat.le_refl _) _ _ _ _ _ _ _ _ _ _, .inl ⟨hbvf, rfl⟩⟩
  · have hbvf : bv = false := by
      cases h : bv
      · rfl
      · have h1 := (HOK.out.1 (HBV.out.1 h)).1
        have h2 := HSN.out hst4
        omega
    clear hst4 hbs4
    go_wp2
    have hrowF := ten_row HRZ4.out (.int .i64 0) (.int .i64 0) (.slice none 0 0) (.int .i64 0) (.int .i64 0) (.int .i64 0) (.int .i64 0) (.int .i64 0) (.int .i64 0) (.int .i64 0)
    refine bodyPost_ret (v := .tuple #[.agg #[.int .i64 0, .int .i64 0, .slice none 0 0, .int .i64 0, .int .i64 0, .int .i64 0, .int .i64 0, .int .i64 0, .int .i64 0, .int .i64 0], .bool false]) (by simp [results, Try.results14, go_sem, fun i => cell_of_row _ _ i _ _ _ hrowF]) rfl ⟨ten_below HB4.out (Nat.le_refl _) _ _ _ _ _ _ _ _ _ _, .inl ⟨hbvf, rfl⟩⟩
end Go.Proofs.Ytolfekbhlfjniaa
