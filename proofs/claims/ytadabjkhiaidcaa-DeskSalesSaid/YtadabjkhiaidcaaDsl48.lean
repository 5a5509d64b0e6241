/- Contract: the law's own known answers (chapter 15). -/
import Derived.Test.YtadabjkhiaidcaaDsl45
import Derived.Test.YtadabjkhiaidcaaDsl47
import Derived.Test.YtadabjkhiaidcaaDsl29

set_option linter.unusedVariables false
set_option linter.unusedSimpArgs false
namespace Go.Proofs.Ytadabjkhiaidcaa
open Go.ChangeShapes Go.WideShapes Go.ChangeAt Go.RowKit Go.Deep
attribute [local go_sem ↓] Tk_execLoad Tk_execStore Cp_execLoad Cp_execStore

attribute [local go_sem] Tk_load Tk_store Cp_load Cp_store loL_drew okL_drew there_sc World.there_drew

def K15.C (i : Nat) : Cpn := ⟨1 + (i : Int), 9, 100, 0, 0, 0⟩
def K15.fl5 : List Cpn := [K15.C 0, K15.C 1, K15.C 2, K15.C 3, K15.C 4]
def K15.loc : ByteArray := ⟨#[65, 66, 67, 68, 69, 70]⟩
def K15.tx : List Txx := [⟨1, 20⟩]
def K15.n1 : Int := 1230000000014
def K15.n2 : Int := 1230000000025
def K15.n3 : Int := 1230000000036
def K15.n4 : Int := 1230000000040
theorem K15.m1 : Num.mkN 123 1 = 1230000000014 := by decide
theorem K15.m2 : Num.mkN 123 2 = 1230000000025 := by decide
theorem K15.m3 : Num.mkN 123 3 = 1230000000036 := by decide
theorem K15.m4 : Num.mkN 123 4 = 1230000000040 := by decide
theorem K15.e1 : Dk.errI 9 K15.loc K15.fl5 K15.tx [1230000000014, 1230000000025] = 0 := by decide +kernel
theorem K15.e2 : Dk.errI 9 K15.loc (K15.fl5.take 1) K15.tx [1230000000036] = 0 := by decide +kernel
def K15.t3 : Tk := ⟨1230000000036, K15.loc, 9, [⟨1, 9, 100, 1, 0, 0⟩], [⟨1, 20⟩], 0, 1230000000036, 1230000000036, 0, 1, []⟩
theorem K15.r2 : Dk.tksI 9 K15.loc (K15.fl5.take 1) K15.tx 1230000000036 0 [1230000000036] = [K15.t3] := by kernel_rfl
theorem K15.f1 : (Dk.refundD K15.t3 30 9).2 = ([⟨9, 1230000000036, 2, 4, -90, 100, 0, 20, -30, 0⟩], 0) := by kernel_rfl
theorem K15.f2 : (Dk.refundD K15.t3 30 9).1.cs = [⟨1, 9, 100, 6, 0, 0⟩] := by kernel_rfl
theorem K15.x1 : Dk.xargB K15.t3 30 9 1230000000040 [⟨7, 9, 50, 0, 0, 0⟩] K15.tx = true := by decide +kernel
theorem K15.x2 : (Dk.exchD K15.t3 30 9 1230000000040 [⟨7, 9, 50, 0, 0, 0⟩] K15.tx).2 = ([⟨9, 1230000000040, 1, 5, 0, 50, 0, 0, -30, -20⟩], 0) := by kernel_rfl
theorem K15.x3 : (Dk.exchD K15.t3 30 9 1230000000040 [⟨7, 9, 50, 0, 0, 0⟩] K15.tx).1.map (fun t => (t.cs.map (·.nx), t.vou)) = [([1230000000040], 0), ([0], 20)] := by kernel_rfl
theorem K15.at5 {i : Nat} {y : Cpn} (h : K15.fl5[i]? = some y) : i < 5 ∧ y = K15.C i := by
  unfold K15.fl5 at h
  match i, h with
  | 0, h => injection h with h; exact ⟨by decide, h.symm⟩
  | 1, h => injection h with h; exact ⟨by decide, h.symm⟩
  | 2, h => injection h with h; exact ⟨by decide, h.symm⟩
  | 3, h => injection h with h; exact ⟨by decide, h.symm⟩
  | 4, h => injection h with h; exact ⟨by decide, h.symm⟩
theorem K15.ls {W : World} {g : Nat} {es : Array Value} (hr : W.heap[g]? = some (.cells es 37 (0, 0))) (he : ∀ i, i < 5 → ∀ q, q < 6 → es[i * 6 + q]? = (K15.C i).cells[q]?) : LS Cpn.cells 6 W (.slice (some ⟨g, 0, none⟩) 5 5) K15.fl5 :=
  ⟨some ⟨g, 0, none⟩, 5, rfl, Nat.le_refl _, by decide, fun _ => ⟨g, 0, rfl, block_lt hr, fun i y hi q v hq => by
    obtain ⟨h5, rfl⟩ := K15.at5 hi
    have hq6 : q < 6 := by have := (List.getElem?_eq_some_iff.1 hq).1; simpa [Cpn.cells] using this
    rw [Nat.zero_add, cell_of_row W g _ _ _ _ hr, he i h5 q hq6]
    exact hq⟩⟩
theorem K15.map1 {rs : List Tkr} {a : Tk} (h : rs.map Tkr.t = [a]) : ∃ r, rs = [r] ∧ r.t = a := by
  cases rs with
  | nil => cases h
  | cons r q =>
    cases q with
    | nil => simp at h; exact ⟨r, rfl, h⟩
    | cons => simp at h
theorem K15.map2 {rs : List Tkr} {a b : Tk} (h : rs.map Tkr.t = [a, b]) : ∃ r s, rs = [r, s] ∧ r.t = a ∧ s.t = b := by
  cases rs with
  | nil => cases h
  | cons r q =>
    obtain ⟨s, rfl, hs⟩ := K15.map1 (rs := q) (a := b) (by simp at h; simpa using h.2)
    exact ⟨r, s, rfl, by simp at h; exact h.1, hs⟩
theorem K15.map2' {β : Type} {f : Tk → β} {rs : List Tkr} {a b : β} (h : (rs.map Tkr.t).map f = [a, b]) : ∃ r s, rs = [r, s] ∧ f r.t = a ∧ f s.t = b := by
  match rs, h with
  | [], h => cases h
  | [_], h => simp at h
  | [r, s], h => exact ⟨r, s, rfl, by simp at h; exact h.1, by simp at h; exact h.2⟩
  | _ :: _ :: _ :: _, h => simp at h
theorem K15.map1c {l : List Cpn} {a : Int} (h : l.map (·.nx) = [a]) : ∃ y, l = [y] ∧ y.nx = a := by
  match l, h with
  | [], h => cases h
  | [y], h => exact ⟨y, rfl, by simp at h; exact h⟩
  | _ :: _ :: _, h => simp at h
theorem K15.wf7 : Cpn.wf ⟨7, 9, 50, 0, 0, 0⟩ := ⟨⟨by decide, by decide⟩, ⟨by decide, by decide⟩, ⟨by decide, by decide⟩, ⟨by decide, by decide⟩, ⟨by decide, by decide⟩, ⟨by decide, by decide⟩⟩
def K15.t1 : Tk := ⟨1230000000014, K15.loc, 9, [⟨1, 9, 100, 1, 0, 0⟩, ⟨2, 9, 100, 1, 0, 0⟩, ⟨3, 9, 100, 1, 0, 0⟩, ⟨4, 9, 100, 1, 0, 0⟩], [⟨1, 20⟩], 0, 1230000000014, 1230000000014, 0, 1, []⟩
def K15.t2 : Tk := ⟨1230000000025, K15.loc, 9, [⟨5, 9, 100, 1, 0, 0⟩], [], 0, 1230000000025, 1230000000014, 0, 1, []⟩
theorem K15.r1 : Dk.tksI 9 K15.loc K15.fl5 K15.tx 1230000000014 0 [1230000000014, 1230000000025] = [K15.t1, K15.t2] := by kernel_rfl
theorem K15.p1 : [K15.t1, K15.t2].map (Dk.poI 9) = [⟨9, 1230000000014, 1, 1, 420, -400, 0, -20, 0, 0⟩, ⟨9, 1230000000025, 1, 1, 100, -100, 0, 0, 0, 0⟩] := by kernel_rfl
set_option maxRecDepth 8000 in
set_option maxHeartbeats 8000000 in
theorem known15_any (w : World) : Calls Try.prog 6 #[] w fun e w' => e = .returned (.bool true) ∧ Below w.heap.size w w' := by
  have HF := Lib.hid (fun s W => first15_any s W)
  go_enter Try.func6, Try.ntmps6
  have hmk : (Instr.makeSlice 22 (.int .i64 5) (.int .i64 5)).run Try.prog w = .ok (.slice (some ⟨w.heap.size, 0, none⟩) 5 5) (w.alloc (.cells (zCp 5) 37 (0, 0))) := mk_Cp 5 (by omega) w
  have HR1 := Lib.hid (new_rowW w (.cells (zCp 5) 37 (0, 0)) _ rfl)
  have HB1 := Lib.hid ((Below.refl w.heap.size w).alloc (Nat.le_refl _) (.cells (zCp 5) 37 (0, 0)))
  have HSZ : Hid ((zCp 5).size = 30) := Lib.hid (by kernel_rfl)
  generalize hz : zCp 5 = z5 at *
  clear hz
  go_wp2_with fail
  clear hmk
  generalize w.alloc (.cells z5 37 (0, 0)) = w1 at *
  go_loopw [2] (fun iv wr => ∃ (k : Nat) (es : Array Value), iv = .int .i64 k ∧ k ≤ 5 ∧ wr.heap[w.heap.size]? = some (.cells es 37 (0, 0)) ∧ es.size = 30 ∧ (∀ i, i < k → ∀ q, q < 6 → es[i * 6 + q]? = (K15.C i).cells[q]?) ∧ Below w.heap.size w wr) (fun iv _ => 5 - (intOf iv).toNat)
  case atStart => exact ⟨0, z5, rfl, by omega, HR1.out, HSZ.out, fun i hi => absurd hi (Nat.not_lt_zero _), HB1.out⟩
  case round =>
    obtain ⟨k, es, rfl, hk, hrow, hes, hA, hb⟩ := hrel
    have HR := Lib.hid hrow; have HES := Lib.hid hes; have HA := Lib.hid hA; have HB := Lib.hid hb
    clear hrow hes hA hb HR1 HB1
    by_cases hlt : k < 5
    · have th : wr.there w.heap.size (k * 6) 6 := fun i hi => by
        rw [cell_of_row wr _ _ _ _ _ HR.out, frozen_of_row wr _ _ _ _ HR.out]
        exact ⟨by rw [Array.getElem?_eq_getElem (by have := HES.out; omega)]; rfl, rfl⟩
      have c6n : ([.int .i64 (1 + (k : Int)), .int .i64 9, .int .i64 100, .int .i64 0, .int .i64 0, .int .u64 0] : List Value).length = 6 := rfl
      have c6c : ([.int .i64 (1 + (k : Int)), .int .i64 9, .int .i64 100, .int .i64 0, .int .i64 0, .int .u64 0] : List Value).all (·.oneCell') = true := rfl
      obtain ⟨es', e1, e2, e3, e4⟩ := setCells_mid [.int .i64 (1 + (k : Int)), .int .i64 9, .int .i64 100, .int .i64 0, .int .i64 0, .int .u64 0] (k * 6) wr es HR.out (by have := HES.out; simp; omega)
      have E1 := Lib.hid e1; have E2 := Lib.hid e2; have E3 := Lib.hid e3; have E4 := Lib.hid e4
      clear e1 e2 e3 e4
      have hlt2 : (k : Int) < 5 := by omega
      go_wp2_with fail
      go_roundw
      case rel =>
        refine ⟨k + 1, es', by go_num, by omega, E1.out, E2.out.trans HES.out, fun i hi q hq => ?_, Only.below HB.out (Nat.le_refl _) HB.out.size ((Only.refl _ _).setCells _ _)⟩
        by_cases hik : i < k
        · rw [E4.out _ (.inl (by omega))]
          exact HA.out i hik q hq
        · obtain rfl : i = k := by omega
          exact E3.out q (by simpa using hq)
      case measure => simp [intOf]; omega
    · obtain rfl : k = 5 := by omega
      have HFV : Hid (∀ W, Below wr.heap.size wr W → LS Cpn.cells 6 W (.slice (some ⟨w.heap.size, 0, none⟩) 5 5) K15.fl5) := Lib.hid (fun W hW => K15.ls ((hW.block _ (block_lt HR.out)).trans HR.out) HA.out)
      clear HR HES HA HSZ
      go_wp2_with fail
      have HBB := Lib.hid ((Below.refl wr.heap.size wr).alloc (Nat.le_refl _) (.cells #[.int .i64 1, .int .i64 20] 56 (0, 0)))
      have HL5 := Lib.hid (HFV.out _ HBB.out)
      have HTL : Hid (LS Txx.cells 2 (wr.alloc (.cells #[.int .i64 1, .int .i64 20] 56 (0, 0))) (.slice (some ⟨wr.heap.size, 0, none⟩) 1 1) K15.tx) := Lib.hid (ls_rowG (enc := Txx.cells) (l := K15.tx) (new_rowW wr (.cells #[.int .i64 1, .int .i64 20] 56 (0, 0)) _ rfl) rfl Txx.cells_length (by decide) (by decide))
      have HB := Lib.hid (HB.out.trans (HBB.out.mono HB.out.size))
      clear HBB HFV
      generalize wr.alloc (.cells #[.int .i64 1, .int .i64 20] 56 (0, 0)) = w2 at *
      generalize wr.heap.size = gx at *
      refine (HF.out 1 w2).mono ?_
      rintro e w3 ⟨rfl, hbn⟩
      rw [K15.m1]
      have HL5 := Lib.hid (HL5.out.below hbn); have HTL := Lib.hid (HTL.out.below hbn)
      have HB := Lib.hid (HB.out.trans (hbn.mono HB.out.size))
      clear hbn
      go_wp2_with fail
      refine (HF.out 2 w3).mono ?_
      rintro e w4 ⟨rfl, hbn⟩
      rw [K15.m2]
      have HL5 := Lib.hid (HL5.out.below hbn); have HTL := Lib.hid (HTL.out.below hbn)
      have HB := Lib.hid (HB.out.trans (hbn.mono HB.out.size))
      clear hbn
      go_wp2_with fail
      have hbn := (Below.refl w4.heap.size w4).alloc (Nat.le_refl _) (.cells #[.int .u64 1230000000014, .int .u64 1230000000025] 35 (0, 0))
      have HNL : Hid (LS u64C 1 (w4.alloc (.cells #[.int .u64 1230000000014, .int .u64 1230000000025] 35 (0, 0))) (.slice (some ⟨w4.heap.size, 0, none⟩) 2 2) [1230000000014, 1230000000025]) := Lib.hid (ls_rowG (enc := u64C) (l := [1230000000014, 1230000000025]) (new_rowW w4 (.cells #[.int .u64 1230000000014, .int .u64 1230000000025] 35 (0, 0)) _ rfl) rfl (fun _ => rfl) (by decide) (by simp [maxLen]))
      have HL5 := Lib.hid (HL5.out.below hbn); have HTL := Lib.hid (HTL.out.below hbn)
      have HB := Lib.hid (HB.out.trans (hbn.mono HB.out.size))
      clear hbn
      refine (dissue_ok 9 K15.loc K15.fl5 K15.tx [1230000000014, 1230000000025] _ _ _ 5 5 1 1 2 2 _ (by decide) HL5.out HTL.out HNL.out (by intro m hm; simp at hm; rcases hm with rfl | rfl <;> exact ⟨by decide, by decide⟩) (by omega) K15.e1).mono ?_
      rintro e w5 ⟨hbn, v1, v2, rs, rfl, hrs, htl, hps⟩
      rw [show ([1230000000014, 1230000000025] : List Int).headD 0 = 1230000000014 from rfl, K15.r1] at hrs hps
      rw [K15.p1] at hps
      obtain ⟨ra, rb, rfl, ha, hbb⟩ := K15.map2 hrs
      generalize w4.alloc (.cells #[.int .u64 1230000000014, .int .u64 1230000000025] 35 (0, 0)) = wq at *
      have hlt := LS.of_own htl.1 Tkr.cells_length (by decide)
      have hlp := LS.of_own hps (fun _ => rfl) (by decide)
      obtain ⟨p1, c1, rfl⟩ := hlt.shape
      obtain ⟨p2, c2, rfl⟩ := hlp.shape
      have hna : ra.c.n = 4 := by have h1 := (htl.2 ra (by simp)).ts.cs.length.1; rw [ha] at h1; exact h1
      have hnb : rb.c.n = 1 := by have h1 := (htl.2 rb (by simp)).ts.cs.length.1; rw [hbb] at h1; exact h1
      obtain ⟨bt, ot, rfl, -, ra1⟩ := hlt.at (i := 0) rfl
      obtain ⟨bt', ot', e9, -, rb1⟩ := hlt.at (i := 1) rfl
      have e10 : bt = bt' ∧ ot = ot' := by injection e9 with e9; injection e9 with e9 e8; exact ⟨e9, e8⟩
      obtain ⟨rfl, rfl⟩ := e10
      obtain ⟨bp, op, rfl, -, pa1⟩ := hlp.at (i := 0) rfl
      obtain ⟨bp', op', e9, -, pb1⟩ := hlp.at (i := 1) rfl
      have e10 : bp = bp' ∧ op = op' := by injection e9 with e9; injection e9 with e9 e8; exact ⟨e9, e8⟩
      obtain ⟨rfl, rfl⟩ := e10
      have c3 := ra1 3 _ rfl
      have c4 := rb1 3 _ rfl
      have c5 := pa1 4 _ rfl
      have c6 := pb1 4 _ rfl
      simp only [Nat.zero_mul, Nat.one_mul, Nat.add_zero, hna, hnb] at c3 c4 c5 c6
      have HL5 := Lib.hid (HL5.out.below hbn); have HTL := Lib.hid (HTL.out.below hbn)
      have HB := Lib.hid (HB.out.trans (hbn.mono HB.out.size))
      clear hbn
      clear HNL HTL hrs htl hps hlt hlp ra1 rb1 pa1 pb1 ha hbb e9 hna hnb
      go_upto_region 9 with fail
      clear c3 c4 c5 c6
      have hhd := fun W => run_headC (some ⟨w.heap.size, 0, none⟩) 5 5 1 (by omega) W
      refine wp_region_rel (T := fun A B => Below A.heap.size A B) (G := fun W => Below w5.heap.size w5 W) (R := fun k => match k with | 0 => fun v _ => v = .slice (some ⟨w.heap.size, 0, none⟩) 5 5 | 1 => fun v _ => v = .slice (some ⟨w.heap.size, 0, none⟩) 1 5 | 2 => fun v _ => v = .agg #[.int .i64 1, .int .i64 20] | 3 => fun v W => ∃ g, v = .slice (some ⟨g, 0, none⟩) 1 1 ∧ LS Txx.cells 2 W (.slice (some ⟨g, 0, none⟩) 1 1) K15.tx | 4 => fun v _ => v = .int .u64 1230000000036 | 5 => fun v W => ∃ g, v = .slice (some ⟨g, 0, none⟩) 1 1 ∧ LS u64C 1 W (.slice (some ⟨g, 0, none⟩) 1 1) [1230000000036] | 6 => fun v W => ∃ (p3 : Option Addr) (z3 : Nat) (p4 : Option Addr) (z4 : Nat) (rc : Tkr), v = .tuple #[.slice p3 1 z3, .slice p4 1 z4, .int .i64 0] ∧ LS Tkr.cells 11 W (.slice p3 1 z3) [rc] ∧ rc.t = K15.t3 ∧ TS W rc.t rc.c rc.x rc.h | 7 => fun v W => ∃ (p3 : Option Addr) (z3 : Nat) (p4 : Option Addr) (z4 : Nat) (rc : Tkr), v = .tuple #[.slice p3 1 z3, .slice p4 1 z4, .int .i64 0] ∧ LS Tkr.cells 11 W (.slice p3 1 z3) [rc] ∧ rc.t = K15.t3 ∧ TS W rc.t rc.c rc.x rc.h | 8 => fun v W => ∃ (p3 : Option Addr) (z3 : Nat) (rc : Tkr), v = .slice p3 1 z3 ∧ LS Tkr.cells 11 W (.slice p3 1 z3) [rc] ∧ rc.t = K15.t3 ∧ TS W rc.t rc.c rc.x rc.h | 9 => fun v W => ∃ (p4 : Option Addr) (z4 : Nat), v = .slice p4 1 z4 | 10 => fun v _ => v = .int .i64 0 | 11 => fun v W => ∃ (p3 : Option Addr) (z3 : Nat) (rc : Tkr), v = .slice p3 1 z3 ∧ LS Tkr.cells 11 W (.slice p3 1 z3) [rc] ∧ rc.t = K15.t3 ∧ TS W rc.t rc.c rc.x rc.h | 12 => fun v W => ∃ (p4 : Option Addr) (z4 : Nat), v = .slice p4 1 z4 | 13 => fun v _ => v = .int .i64 0 | _ => fun _ _ => True) (by kernel_rfl) (by kernel_rfl) (by kernel_rfl) ?iT ((Below.refl _ _).drew) ?iS ?iD
      case iT =>
        intro k v A B hT h
        match k, h with
        | 0, h => exact h
        | 1, h => exact h
        | 2, h => exact h
        | 3, h => exact (by obtain ⟨g, h1, h2⟩ := h; exact ⟨g, h1, h2.below hT⟩)
        | 4, h => exact h
        | 5, h => exact (by obtain ⟨g, h1, h2⟩ := h; exact ⟨g, h1, h2.below hT⟩)
        | 6, h => exact (by obtain ⟨p3, z3, p4, z4, rc, h1, h2, h3, h4⟩ := h; exact ⟨p3, z3, p4, z4, rc, h1, h2.below hT, h3, h4.below hT⟩)
        | 7, h => exact (by obtain ⟨p3, z3, p4, z4, rc, h1, h2, h3, h4⟩ := h; exact ⟨p3, z3, p4, z4, rc, h1, h2.below hT, h3, h4.below hT⟩)
        | 8, h => exact (by obtain ⟨p3, z3, rc, h1, h2, h3, h4⟩ := h; exact ⟨p3, z3, rc, h1, h2.below hT, h3, h4.below hT⟩)
        | 9, h => exact h
        | 10, h => exact h
        | 11, h => exact (by obtain ⟨p3, z3, rc, h1, h2, h3, h4⟩ := h; exact ⟨p3, z3, rc, h1, h2.below hT, h3, h4.below hT⟩)
        | 12, h => exact h
        | 13, h => exact h
        | _ + 14, h => exact trivial
      case iS =>
        refine ⟨?s0, ?s1, ?s2, ?s3, ?s4, ?s5, ?s6, ?s7, ?s8, ?s9, ?s10, ?s11, ?s12, ?s13, trivial⟩
        case s0 =>
          intro f W hG hW K hK
          try dsimp only at hG
          simp only [putF, Act.put, List.setIfInBounds_toArray, List.set_cons_zero, List.set_cons_succ, Nat.reduceAdd, Nat.zero_add] at hK ⊢
          clear hW
          go_simp
          refine hK.out _ _ (Below.refl _ _) hG ?_
          first | with_reducible rfl | rfl
        case s1 =>
          intro f W hG hW K hK
          try dsimp only at hG
          have e0 := hW 0 (by kernel_rfl)
          change f 0 = .slice (some ⟨w.heap.size, 0, none⟩) 5 5 at e0
          simp only [putF, Act.put, List.setIfInBounds_toArray, List.set_cons_zero, List.set_cons_succ, Nat.reduceAdd, Nat.zero_add] at hK ⊢
          (try rw [e0])
          (try rw [e0] at hK)
          clear hW
          go_simp
          refine hK.out _ _ (Below.refl _ _) hG ?_
          first | with_reducible rfl | rfl
        case s2 =>
          intro f W hG hW K hK
          try dsimp only at hG
          simp only [putF, Act.put, List.setIfInBounds_toArray, List.set_cons_zero, List.set_cons_succ, Nat.reduceAdd, Nat.zero_add] at hK ⊢
          clear hW
          go_simp
          refine hK.out _ _ (Below.refl _ _) hG ?_
          first | with_reducible rfl | rfl
        case s3 =>
          intro f W hG hW K hK
          try dsimp only at hG
          have e2 := hW 2 (by kernel_rfl)
          change f 2 = .agg #[.int .i64 1, .int .i64 20] at e2
          simp only [putF, Act.put, List.setIfInBounds_toArray, List.set_cons_zero, List.set_cons_succ, Nat.reduceAdd, Nat.zero_add] at hK ⊢
          (try rw [e2])
          (try rw [e2] at hK)
          have hls := ls_rowG (enc := Txx.cells) (n := 2) (l := K15.tx) (new_rowW W (.cells #[.int .i64 1, .int .i64 20] 56 (0, 0)) _ rfl) rfl (fun _ => rfl) (by decide) (by decide)
          clear hW
          go_simp
          refine hK.out _ _ ((Below.refl _ _).alloc (Nat.le_refl _) _) (hG.alloc hG.size _) ?_
          exact ⟨W.heap.size, rfl, hls⟩
        case s4 =>
          intro f W hG hW K hK
          try dsimp only at hG
          simp only [putF, Act.put, List.setIfInBounds_toArray, List.set_cons_zero, List.set_cons_succ, Nat.reduceAdd, Nat.zero_add] at hK ⊢
          clear hW
          go_simp
          refine (HF.out 3 W).mono ?_
          rintro e w' ⟨rfl, hb⟩
          refine hK.out _ _ hb (hG.trans (hb.mono hG.size)) ?_
          exact congrArg (Value.int .u64) K15.m3
        case s5 =>
          intro f W hG hW K hK
          try dsimp only at hG
          have e4 := hW 4 (by kernel_rfl)
          change f 4 = .int .u64 1230000000036 at e4
          simp only [putF, Act.put, List.setIfInBounds_toArray, List.set_cons_zero, List.set_cons_succ, Nat.reduceAdd, Nat.zero_add] at hK ⊢
          (try rw [e4])
          (try rw [e4] at hK)
          have hls := ls_rowG (enc := u64C) (n := 1) (l := [1230000000036]) (new_rowW W (.cells #[.int .u64 1230000000036] 35 (0, 0)) _ rfl) rfl (fun _ => rfl) (by decide) (by decide)
          clear hW
          go_simp
          refine hK.out _ _ ((Below.refl _ _).alloc (Nat.le_refl _) _) (hG.alloc hG.size _) ?_
          exact ⟨W.heap.size, rfl, hls⟩
        case s6 =>
          intro f W hG hW K hK
          try dsimp only at hG
          have e1 := hW 1 (by kernel_rfl)
          change f 1 = .slice (some ⟨w.heap.size, 0, none⟩) 1 5 at e1
          have e3 := hW 3 (by kernel_rfl)
          try dsimp only at e3
          have e4 := hW 4 (by kernel_rfl)
          change f 4 = .int .u64 1230000000036 at e4
          have e5 := hW 5 (by kernel_rfl)
          try dsimp only at e5
          simp only [putF, Act.put, List.setIfInBounds_toArray, List.set_cons_zero, List.set_cons_succ, Nat.reduceAdd, Nat.zero_add] at hK ⊢
          (try rw [e1])
          (try rw [e1] at hK)
          (try rw [e4])
          (try rw [e4] at hK)
          obtain ⟨g, hg1, hg2⟩ := e3
          obtain ⟨g2, hn1, hn2⟩ := e5
          simp only [hg1, hn1] at hK ⊢
          have hl5 := (HL5.out.below hG).take (k := 1) (by omega)
          clear hW
          go_simp
          refine (dissue_ok 9 K15.loc (K15.fl5.take 1) K15.tx [1230000000036] _ _ _ 1 5 1 1 1 1 W (by decide) hl5 hg2 hn2 (by intro m hm; simp at hm; subst hm; exact ⟨by decide, by decide⟩) (by omega) K15.e2).mono ?_
          rintro e w' ⟨hb, v1, v2, rs, rfl, hrs, htl, hps⟩
          rw [show ([1230000000036] : List Int).headD 0 = 1230000000036 from rfl, K15.r2] at hrs hps
          obtain ⟨rc, rfl, hrc⟩ := K15.map1 hrs
          have hlt := LS.of_own htl.1 Tkr.cells_length (by decide)
          have hlp := LS.of_own hps (fun _ => rfl) (by decide)
          obtain ⟨p3, z3, rfl⟩ := hlt.shape
          obtain ⟨p4, z4, rfl⟩ := hlp.shape
          exact hK.out _ _ hb (hG.trans (hb.mono hG.size)) ⟨p3, z3, p4, z4, rc, rfl, hlt, hrc, (htl.2 rc (by simp)).ts⟩
        case s7 =>
          intro f W hG hW K hK
          try dsimp only at hG
          have e6 := hW 6 (by kernel_rfl)
          try dsimp only at e6
          simp only [putF, Act.put, List.setIfInBounds_toArray, List.set_cons_zero, List.set_cons_succ, Nat.reduceAdd, Nat.zero_add] at hK ⊢
          clear hW
          go_simp
          refine hK.out _ _ (Below.refl _ _) hG ?_
          exact e6
        case s8 =>
          intro f W hG hW K hK
          try dsimp only at hG
          have e7 := hW 7 (by kernel_rfl)
          try dsimp only at e7
          simp only [putF, Act.put, List.setIfInBounds_toArray, List.set_cons_zero, List.set_cons_succ, Nat.reduceAdd, Nat.zero_add] at hK ⊢
          obtain ⟨p3, z3, p4, z4, rc, h1, h2, h3, h4⟩ := e7
          simp only [h1] at hK ⊢
          clear hW
          go_simp
          refine hK.out _ _ (Below.refl _ _) hG ?_
          exact ⟨p3, z3, rc, rfl, h2, h3, h4⟩
        case s9 =>
          intro f W hG hW K hK
          try dsimp only at hG
          have e7 := hW 7 (by kernel_rfl)
          try dsimp only at e7
          simp only [putF, Act.put, List.setIfInBounds_toArray, List.set_cons_zero, List.set_cons_succ, Nat.reduceAdd, Nat.zero_add] at hK ⊢
          obtain ⟨p3, z3, p4, z4, rc, h1, h2, h3, h4⟩ := e7
          simp only [h1] at hK ⊢
          clear hW
          go_simp
          refine hK.out _ _ (Below.refl _ _) hG ?_
          exact ⟨p4, z4, rfl⟩
        case s10 =>
          intro f W hG hW K hK
          try dsimp only at hG
          have e7 := hW 7 (by kernel_rfl)
          try dsimp only at e7
          simp only [putF, Act.put, List.setIfInBounds_toArray, List.set_cons_zero, List.set_cons_succ, Nat.reduceAdd, Nat.zero_add] at hK ⊢
          obtain ⟨p3, z3, p4, z4, rc, h1, h2, h3, h4⟩ := e7
          simp only [h1] at hK ⊢
          clear hW
          go_simp
          refine hK.out _ _ (Below.refl _ _) hG ?_
          rfl
        case s11 =>
          intro f W hG hW K hK
          try dsimp only at hG
          have e0 := hW 0 (by kernel_rfl)
          change f 0 = .slice (some ⟨w.heap.size, 0, none⟩) 5 5 at e0
          have e1 := hW 1 (by kernel_rfl)
          change f 1 = .slice (some ⟨w.heap.size, 0, none⟩) 1 5 at e1
          have e2 := hW 2 (by kernel_rfl)
          change f 2 = .agg #[.int .i64 1, .int .i64 20] at e2
          have e3 := hW 3 (by kernel_rfl)
          try dsimp only at e3
          have e4 := hW 4 (by kernel_rfl)
          change f 4 = .int .u64 1230000000036 at e4
          have e5 := hW 5 (by kernel_rfl)
          try dsimp only at e5
          have e6 := hW 6 (by kernel_rfl)
          try dsimp only at e6
          have e7 := hW 7 (by kernel_rfl)
          try dsimp only at e7
          have e8 := hW 8 (by kernel_rfl)
          try dsimp only at e8
          simp only [putF, Act.put, List.setIfInBounds_toArray, List.set_cons_zero, List.set_cons_succ, Nat.reduceAdd, Nat.zero_add] at hK ⊢
          (try rw [e0])
          (try rw [e0] at hK)
          (try rw [e1])
          (try rw [e1] at hK)
          (try rw [e2])
          (try rw [e2] at hK)
          (try rw [e4])
          (try rw [e4] at hK)
          clear hW
          go_simp
          refine hK.out _ _ (Below.refl _ _) hG ?_
          exact e8
        case s12 =>
          intro f W hG hW K hK
          try dsimp only at hG
          have e0 := hW 0 (by kernel_rfl)
          change f 0 = .slice (some ⟨w.heap.size, 0, none⟩) 5 5 at e0
          have e1 := hW 1 (by kernel_rfl)
          change f 1 = .slice (some ⟨w.heap.size, 0, none⟩) 1 5 at e1
          have e2 := hW 2 (by kernel_rfl)
          change f 2 = .agg #[.int .i64 1, .int .i64 20] at e2
          have e3 := hW 3 (by kernel_rfl)
          try dsimp only at e3
          have e4 := hW 4 (by kernel_rfl)
          change f 4 = .int .u64 1230000000036 at e4
          have e5 := hW 5 (by kernel_rfl)
          try dsimp only at e5
          have e6 := hW 6 (by kernel_rfl)
          try dsimp only at e6
          have e7 := hW 7 (by kernel_rfl)
          try dsimp only at e7
          have e8 := hW 8 (by kernel_rfl)
          try dsimp only at e8
          have e9 := hW 9 (by kernel_rfl)
          try dsimp only at e9
          have e11 := hW 11 (by kernel_rfl)
          try dsimp only at e11
          simp only [putF, Act.put, List.setIfInBounds_toArray, List.set_cons_zero, List.set_cons_succ, Nat.reduceAdd, Nat.zero_add] at hK ⊢
          (try rw [e0])
          (try rw [e0] at hK)
          (try rw [e1])
          (try rw [e1] at hK)
          (try rw [e2])
          (try rw [e2] at hK)
          (try rw [e4])
          (try rw [e4] at hK)
          clear hW
          go_simp
          refine hK.out _ _ (Below.refl _ _) hG ?_
          exact e9
        case s13 =>
          intro f W hG hW K hK
          try dsimp only at hG
          have e0 := hW 0 (by kernel_rfl)
          change f 0 = .slice (some ⟨w.heap.size, 0, none⟩) 5 5 at e0
          have e1 := hW 1 (by kernel_rfl)
          change f 1 = .slice (some ⟨w.heap.size, 0, none⟩) 1 5 at e1
          have e2 := hW 2 (by kernel_rfl)
          change f 2 = .agg #[.int .i64 1, .int .i64 20] at e2
          have e3 := hW 3 (by kernel_rfl)
          try dsimp only at e3
          have e4 := hW 4 (by kernel_rfl)
          change f 4 = .int .u64 1230000000036 at e4
          have e5 := hW 5 (by kernel_rfl)
          try dsimp only at e5
          have e6 := hW 6 (by kernel_rfl)
          try dsimp only at e6
          have e7 := hW 7 (by kernel_rfl)
          try dsimp only at e7
          have e8 := hW 8 (by kernel_rfl)
          try dsimp only at e8
          have e9 := hW 9 (by kernel_rfl)
          try dsimp only at e9
          have e10 := hW 10 (by kernel_rfl)
          change f 10 = .int .i64 0 at e10
          have e11 := hW 11 (by kernel_rfl)
          try dsimp only at e11
          have e12 := hW 12 (by kernel_rfl)
          try dsimp only at e12
          simp only [putF, Act.put, List.setIfInBounds_toArray, List.set_cons_zero, List.set_cons_succ, Nat.reduceAdd, Nat.zero_add] at hK ⊢
          (try rw [e0])
          (try rw [e0] at hK)
          (try rw [e1])
          (try rw [e1] at hK)
          (try rw [e2])
          (try rw [e2] at hK)
          (try rw [e4])
          (try rw [e4] at hK)
          (try rw [e10])
          (try rw [e10] at hK)
          clear hW
          go_simp
          refine hK.out _ _ (Below.refl _ _) hG ?_
          first | with_reducible rfl | rfl
      case iD =>
        intro f W hG hR
        try dsimp only at hG
        have r0 := hR 0 (by decide)
        change f 0 = .slice (some ⟨w.heap.size, 0, none⟩) 5 5 at r0
        have r1 := hR 1 (by decide)
        change f 1 = .slice (some ⟨w.heap.size, 0, none⟩) 1 5 at r1
        have r2 := hR 2 (by decide)
        change f 2 = .agg #[.int .i64 1, .int .i64 20] at r2
        have r3 := hR 3 (by decide)
        try dsimp only at r3
        have r4 := hR 4 (by decide)
        change f 4 = .int .u64 1230000000036 at r4
        have r5 := hR 5 (by decide)
        try dsimp only at r5
        have r6 := hR 6 (by decide)
        try dsimp only at r6
        have r7 := hR 7 (by decide)
        try dsimp only at r7
        have r8 := hR 8 (by decide)
        try dsimp only at r8
        have r9 := hR 9 (by decide)
        try dsimp only at r9
        have r10 := hR 10 (by decide)
        change f 10 = .int .i64 0 at r10
        have r11 := hR 11 (by decide)
        try dsimp only at r11
        have r12 := hR 12 (by decide)
        try dsimp only at r12
        have r13 := hR 13 (by decide)
        change f 13 = .int .i64 0 at r13
        clear hR
        simp only [putF, Act.put, List.setIfInBounds_toArray, List.set_cons_zero, List.set_cons_succ, Nat.reduceAdd, Nat.zero_add]
        (try rw [r0])
        (try rw [r1])
        (try rw [r2])
        (try rw [r4])
        (try rw [r10])
        (try rw [r13])
        have hbn := hG
        obtain ⟨p3, z3, rc, hv3, hl3, ht3, hs3⟩ := r11
        obtain ⟨p4, z4, hv4⟩ := r12
        rw [hv3, hv4]
        have HM := Lib.hid hl3; have HRT := Lib.hid ht3; have HRS := Lib.hid hs3
        have HB := Lib.hid (HB.out.trans (hbn.mono HB.out.size))
        clear hG hbn r0 r1 r2 r3 r4 r5 r6 r7 r8 r9 r10 r13 hv3 hv4 hl3 ht3 hs3 hhd
        generalize W = w6 at *
        obtain ⟨tt, cc, xx, hh⟩ := rc
        simp only at HRT HRS
        have ht3 := HRT.out
        subst ht3
        obtain ⟨bm, om, hpm, hbm, rm⟩ := HM.out.at (i := 0) rfl
        subst hpm
        simp only [Nat.zero_mul, Nat.add_zero] at rm
        have HRM : Hid (∀ W, Below w6.heap.size w6 W → W.rangeAt bm om [.int .u64 K15.t3.num, .string K15.t3.loc, .int .i64 K15.t3.iss, .slice cc.p cc.n cc.c, .slice xx.p xx.n xx.c, .int .u64 K15.t3.prev, .int .u64 K15.t3.org, .int .u64 K15.t3.fst, .int .i64 K15.t3.vou, .int .i64 K15.t3.posts, .slice hh.p hh.n hh.c]) := Lib.hid (fun W hW j u hu => (hW.cell (p := ⟨bm, om + j, none⟩) hbm).trans (rm j u hu))
        obtain ⟨f1, f2⟩ := loL_of (n := 11) (HRM.out w6 (Below.refl _ _)) rfl
        clear hbm rm HM
        go_wp2_with fail
        clear f1 f2
        refine (drefund_any K15.t3 cc xx hh 30 9 ⟨by decide, by decide⟩ w6 HRS.out).mono ?_
        have hrd1 := K15.f1
        have hrd2 := K15.f2
        generalize Dk.refundD K15.t3 30 9 = rd at hrd1 hrd2 ⊢
        obtain ⟨rt, rq⟩ := rd
        simp only at hrd1 hrd2
        subst hrd1
        simp only
        rintro e w7 ⟨a', b', d', vp, rfl, ts2, hlp, hbn⟩
        obtain ⟨p5, c5', hv5⟩ := hlp.shape
        subst hv5
        have HQ := Lib.hid hlp; have HT2 := Lib.hid ts2; have HBN := Lib.hid hbn; have HCS := Lib.hid hrd2
        clear ts2 hlp hbn hrd2
        have HB7 := Lib.hid (HB.out.trans (HBN.out.mono HB.out.size))
        have th := there_newT (w := w7) (zs := [.int .u64 0, .string ⟨#[]⟩, .int .i64 0, .slice none 0 0, .slice none 0 0, .int .u64 0, .int .u64 0, .int .u64 0, .int .i64 0, .int .i64 0, .slice none 0 0]) (e := 45 ) (n := 11) rfl
        have h1n : ([.int .u64 rt.num, .string rt.loc, .int .i64 rt.iss, .slice a'.p a'.n a'.c, .slice b'.p b'.n b'.c, .int .u64 rt.prev, .int .u64 rt.org, .int .u64 rt.fst, .int .i64 rt.vou, .int .i64 rt.posts, .slice d'.p d'.n d'.c] : List Value).length = 11 := rfl
        have h1c : ([.int .u64 rt.num, .string rt.loc, .int .i64 rt.iss, .slice a'.p a'.n a'.c, .slice b'.p b'.n b'.c, .int .u64 rt.prev, .int .u64 rt.org, .int .u64 rt.fst, .int .i64 rt.vou, .int .i64 rt.posts, .slice d'.p d'.n d'.c] : List Value).all (·.oneCell') = true := rfl
        have HP := Lib.hid (putTk (W := w7) (cs := [.int .u64 rt.num, .string rt.loc, .int .i64 rt.iss, .slice a'.p a'.n a'.c, .slice b'.p b'.n b'.c, .int .u64 rt.prev, .int .u64 rt.org, .int .u64 rt.fst, .int .i64 rt.vou, .int .i64 rt.posts, .slice d'.p d'.n d'.c]) rfl)
        go_upto_region 13 with fail
        clear th h1n h1c
        have HR8 := Lib.hid HP.out.1
        have HQ8 := Lib.hid (HQ.out.below HP.out.2); have HT8 := Lib.hid (HT2.out.below HP.out.2); have HBX := Lib.hid (HBN.out.trans (HP.out.2.mono HBN.out.size)); have HB8 := Lib.hid (HB7.out.trans (HP.out.2.mono HB7.out.size))
        clear HP HQ HT2 HBN HB7 HB
        generalize (w7.alloc (.cells #[.int .u64 0, .string ⟨#[]⟩, .int .i64 0, .slice none 0 0, .slice none 0 0, .int .u64 0, .int .u64 0, .int .u64 0, .int .i64 0, .int .i64 0, .slice none 0 0] 45 (0, 0))).setCells w7.heap.size 0 [.int .u64 rt.num, .string rt.loc, .int .i64 rt.iss, .slice a'.p a'.n a'.c, .slice b'.p b'.n b'.c, .int .u64 rt.prev, .int .u64 rt.org, .int .u64 rt.fst, .int .i64 rt.vou, .int .i64 rt.posts, .slice d'.p d'.n d'.c] = w8 at *
        generalize w7.heap.size = g8 at *
        refine wp_region_rel (T := fun A B => Below A.heap.size A B) (G := fun W => Below w8.heap.size w8 W) (R := fun k => match k with | 0 => fun v _ => v = .slice (some ⟨bm, om, none⟩) 1 z3 | 1 => fun v _ => v = .pointer (some ⟨bm, om, none⟩) | 2 => fun v _ => v = .agg #[.int .u64 K15.t3.num, .string K15.t3.loc, .int .i64 K15.t3.iss, .slice cc.p cc.n cc.c, .slice xx.p xx.n xx.c, .int .u64 K15.t3.prev, .int .u64 K15.t3.org, .int .u64 K15.t3.fst, .int .i64 K15.t3.vou, .int .i64 K15.t3.posts, .slice hh.p hh.n hh.c] | 3 => fun v _ => v = .int .u64 1230000000040 | 4 => fun v _ => v = .agg #[.int .i64 7, .int .i64 9, .int .i64 50, .int .i64 0, .int .i64 0, .int .u64 0] | 5 => fun v W => ∃ g, v = .slice (some ⟨g, 0, none⟩) 1 1 ∧ LS Cpn.cells 6 W (.slice (some ⟨g, 0, none⟩) 1 1) [⟨7, 9, 50, 0, 0, 0⟩] | 6 => fun v _ => v = .agg #[.int .i64 1, .int .i64 20] | 7 => fun v W => ∃ g, v = .slice (some ⟨g, 0, none⟩) 1 1 ∧ LS Txx.cells 2 W (.slice (some ⟨g, 0, none⟩) 1 1) K15.tx | 8 => fun v W => ∃ (p6 : Option Addr) (z6 : Nat) (p7 : Option Addr) (z7 : Nat) (ra rb : Tkr), v = .tuple #[.slice p6 2 z6, .slice p7 1 z7, .int .i64 0] ∧ LS Tkr.cells 11 W (.slice p6 2 z6) [ra, rb] ∧ ra.t.cs.map (·.nx) = [1230000000040] ∧ rb.t.vou = 20 ∧ TS W ra.t ra.c ra.x ra.h ∧ LS Pst.cells 10 W (.slice p7 1 z7) [⟨9, 1230000000040, 1, 5, 0, 50, 0, 0, -30, -20⟩] | 9 => fun v W => ∃ (p6 : Option Addr) (z6 : Nat) (p7 : Option Addr) (z7 : Nat) (ra rb : Tkr), v = .tuple #[.slice p6 2 z6, .slice p7 1 z7, .int .i64 0] ∧ LS Tkr.cells 11 W (.slice p6 2 z6) [ra, rb] ∧ ra.t.cs.map (·.nx) = [1230000000040] ∧ rb.t.vou = 20 ∧ TS W ra.t ra.c ra.x ra.h ∧ LS Pst.cells 10 W (.slice p7 1 z7) [⟨9, 1230000000040, 1, 5, 0, 50, 0, 0, -30, -20⟩] | 10 => fun v W => ∃ (p6 : Option Addr) (z6 : Nat) (ra rb : Tkr), v = .slice p6 2 z6 ∧ LS Tkr.cells 11 W (.slice p6 2 z6) [ra, rb] ∧ ra.t.cs.map (·.nx) = [1230000000040] ∧ rb.t.vou = 20 ∧ TS W ra.t ra.c ra.x ra.h | 11 => fun v W => ∃ (p7 : Option Addr) (z7 : Nat), v = .slice p7 1 z7 ∧ LS Pst.cells 10 W (.slice p7 1 z7) [⟨9, 1230000000040, 1, 5, 0, 50, 0, 0, -30, -20⟩] | 12 => fun v _ => v = .int .i64 0 | 13 => fun v W => ∃ (p6 : Option Addr) (z6 : Nat) (ra rb : Tkr), v = .slice p6 2 z6 ∧ LS Tkr.cells 11 W (.slice p6 2 z6) [ra, rb] ∧ ra.t.cs.map (·.nx) = [1230000000040] ∧ rb.t.vou = 20 ∧ TS W ra.t ra.c ra.x ra.h | 14 => fun v W => ∃ (p7 : Option Addr) (z7 : Nat), v = .slice p7 1 z7 ∧ LS Pst.cells 10 W (.slice p7 1 z7) [⟨9, 1230000000040, 1, 5, 0, 50, 0, 0, -30, -20⟩] | 15 => fun v _ => v = .int .i64 0 | _ => fun _ _ => True) (by kernel_rfl) (by kernel_rfl) (by kernel_rfl) ?iT ((Below.refl _ _).drew) ?iS ?iD
        case iT =>
          intro k v A B hT h
          match k, h with
          | 0, h => exact h
          | 1, h => exact h
          | 2, h => exact h
          | 3, h => exact h
          | 4, h => exact h
          | 5, h => exact (by obtain ⟨g, h1, h2⟩ := h; exact ⟨g, h1, h2.below hT⟩)
          | 6, h => exact h
          | 7, h => exact (by obtain ⟨g, h1, h2⟩ := h; exact ⟨g, h1, h2.below hT⟩)
          | 8, h => exact (by obtain ⟨p6, z6, p7, z7, ra, rb, h1, h2, h3, h4, h5, h6⟩ := h; exact ⟨p6, z6, p7, z7, ra, rb, h1, h2.below hT, h3, h4, h5.below hT, h6.below hT⟩)
          | 9, h => exact (by obtain ⟨p6, z6, p7, z7, ra, rb, h1, h2, h3, h4, h5, h6⟩ := h; exact ⟨p6, z6, p7, z7, ra, rb, h1, h2.below hT, h3, h4, h5.below hT, h6.below hT⟩)
          | 10, h => exact (by obtain ⟨p6, z6, ra, rb, h1, h2, h3, h4, h5⟩ := h; exact ⟨p6, z6, ra, rb, h1, h2.below hT, h3, h4, h5.below hT⟩)
          | 11, h => exact (by obtain ⟨p7, z7, h1, h2⟩ := h; exact ⟨p7, z7, h1, h2.below hT⟩)
          | 12, h => exact h
          | 13, h => exact (by obtain ⟨p6, z6, ra, rb, h1, h2, h3, h4, h5⟩ := h; exact ⟨p6, z6, ra, rb, h1, h2.below hT, h3, h4, h5.below hT⟩)
          | 14, h => exact (by obtain ⟨p7, z7, h1, h2⟩ := h; exact ⟨p7, z7, h1, h2.below hT⟩)
          | 15, h => exact h
          | _ + 16, h => exact trivial
        case iS =>
          refine ⟨?s0, ?s1, ?s2, ?s3, ?s4, ?s5, ?s6, ?s7, ?s8, ?s9, ?s10, ?s11, ?s12, ?s13, ?s14, ?s15, trivial⟩
          case s0 =>
            intro f W hG hW K hK
            try dsimp only at hG
            simp only [putF, Act.put, List.setIfInBounds_toArray, List.set_cons_zero, List.set_cons_succ, Nat.reduceAdd, Nat.zero_add] at hK ⊢
            clear hW
            go_simp
            refine hK.out _ _ (Below.refl _ _) hG ?_
            first | with_reducible rfl | rfl
          case s1 =>
            intro f W hG hW K hK
            try dsimp only at hG
            have e0 := hW 0 (by kernel_rfl)
            change f 0 = .slice (some ⟨bm, om, none⟩) 1 z3 at e0
            simp only [putF, Act.put, List.setIfInBounds_toArray, List.set_cons_zero, List.set_cons_succ, Nat.reduceAdd, Nat.zero_add] at hK ⊢
            (try rw [e0])
            (try rw [e0] at hK)
            clear hW
            go_simp
            refine hK.out _ _ (Below.refl _ _) hG ?_
            first | with_reducible rfl | rfl
          case s2 =>
            intro f W hG hW K hK
            try dsimp only at hG
            have e1 := hW 1 (by kernel_rfl)
            change f 1 = .pointer (some ⟨bm, om, none⟩) at e1
            simp only [putF, Act.put, List.setIfInBounds_toArray, List.set_cons_zero, List.set_cons_succ, Nat.reduceAdd, Nat.zero_add] at hK ⊢
            (try rw [e1])
            (try rw [e1] at hK)
            obtain ⟨f1, f2⟩ := loL_of (n := 11) (HRM.out W (HBX.out.trans (hG.mono HBX.out.size))) rfl
            clear hW
            go_simp
            refine hK.out _ _ (Below.refl _ _) hG ?_
            first | with_reducible rfl | rfl
          case s3 =>
            intro f W hG hW K hK
            try dsimp only at hG
            simp only [putF, Act.put, List.setIfInBounds_toArray, List.set_cons_zero, List.set_cons_succ, Nat.reduceAdd, Nat.zero_add] at hK ⊢
            clear hW
            go_simp
            refine (HF.out 4 W).mono ?_
            rintro e w' ⟨rfl, hb⟩
            refine hK.out _ _ hb (hG.trans (hb.mono hG.size)) ?_
            exact congrArg (Value.int .u64) K15.m4
          case s4 =>
            intro f W hG hW K hK
            try dsimp only at hG
            simp only [putF, Act.put, List.setIfInBounds_toArray, List.set_cons_zero, List.set_cons_succ, Nat.reduceAdd, Nat.zero_add] at hK ⊢
            clear hW
            go_simp
            refine hK.out _ _ (Below.refl _ _) hG ?_
            first | with_reducible rfl | rfl
          case s5 =>
            intro f W hG hW K hK
            try dsimp only at hG
            have e4 := hW 4 (by kernel_rfl)
            change f 4 = .agg #[.int .i64 7, .int .i64 9, .int .i64 50, .int .i64 0, .int .i64 0, .int .u64 0] at e4
            simp only [putF, Act.put, List.setIfInBounds_toArray, List.set_cons_zero, List.set_cons_succ, Nat.reduceAdd, Nat.zero_add] at hK ⊢
            (try rw [e4])
            (try rw [e4] at hK)
            have hls := ls_rowG (enc := Cpn.cells) (n := 6) (l := [⟨7, 9, 50, 0, 0, 0⟩]) (new_rowW W (.cells #[.int .i64 7, .int .i64 9, .int .i64 50, .int .i64 0, .int .i64 0, .int .u64 0] 37 (0, 0)) _ rfl) rfl (fun _ => rfl) (by decide) (by decide)
            clear hW
            go_simp
            refine hK.out _ _ ((Below.refl _ _).alloc (Nat.le_refl _) _) (hG.alloc hG.size _) ?_
            exact ⟨W.heap.size, rfl, hls⟩
          case s6 =>
            intro f W hG hW K hK
            try dsimp only at hG
            simp only [putF, Act.put, List.setIfInBounds_toArray, List.set_cons_zero, List.set_cons_succ, Nat.reduceAdd, Nat.zero_add] at hK ⊢
            clear hW
            go_simp
            refine hK.out _ _ (Below.refl _ _) hG ?_
            first | with_reducible rfl | rfl
          case s7 =>
            intro f W hG hW K hK
            try dsimp only at hG
            have e6 := hW 6 (by kernel_rfl)
            change f 6 = .agg #[.int .i64 1, .int .i64 20] at e6
            simp only [putF, Act.put, List.setIfInBounds_toArray, List.set_cons_zero, List.set_cons_succ, Nat.reduceAdd, Nat.zero_add] at hK ⊢
            (try rw [e6])
            (try rw [e6] at hK)
            have hls := ls_rowG (enc := Txx.cells) (n := 2) (l := K15.tx) (new_rowW W (.cells #[.int .i64 1, .int .i64 20] 56 (0, 0)) _ rfl) rfl (fun _ => rfl) (by decide) (by decide)
            clear hW
            go_simp
            refine hK.out _ _ ((Below.refl _ _).alloc (Nat.le_refl _) _) (hG.alloc hG.size _) ?_
            exact ⟨W.heap.size, rfl, hls⟩
          case s8 =>
            intro f W hG hW K hK
            try dsimp only at hG
            have e2 := hW 2 (by kernel_rfl)
            change f 2 = .agg #[.int .u64 K15.t3.num, .string K15.t3.loc, .int .i64 K15.t3.iss, .slice cc.p cc.n cc.c, .slice xx.p xx.n xx.c, .int .u64 K15.t3.prev, .int .u64 K15.t3.org, .int .u64 K15.t3.fst, .int .i64 K15.t3.vou, .int .i64 K15.t3.posts, .slice hh.p hh.n hh.c] at e2
            have e3 := hW 3 (by kernel_rfl)
            change f 3 = .int .u64 1230000000040 at e3
            have e5 := hW 5 (by kernel_rfl)
            try dsimp only at e5
            have e7 := hW 7 (by kernel_rfl)
            try dsimp only at e7
            simp only [putF, Act.put, List.setIfInBounds_toArray, List.set_cons_zero, List.set_cons_succ, Nat.reduceAdd, Nat.zero_add] at hK ⊢
            (try rw [e2])
            (try rw [e2] at hK)
            (try rw [e3])
            (try rw [e3] at hK)
            obtain ⟨g, hg1, hg2⟩ := e5
            obtain ⟨g2, hn1, hn2⟩ := e7
            simp only [hg1, hn1] at hK ⊢
            have hts := HRS.out.below (HBX.out.trans (hG.mono HBX.out.size))
            clear hW
            go_simp
            refine (dexch_ok K15.t3 cc xx hh 30 9 1230000000040 [⟨7, 9, 50, 0, 0, 0⟩] _ _ _ K15.tx _ _ _ ⟨by decide, by decide⟩ ⟨by decide, by decide⟩ W hts hg2 hn2 (by omega) (by intro y hy; simp [K15.tx] at hy; subst hy; exact ⟨⟨by decide, by decide⟩, by decide, by decide⟩) (by intro y hy; simp at hy; subst hy; exact K15.wf7) K15.x1).mono ?_
            rintro e w' ⟨v1, v2, rs, rfl, htl, hrs, hps, hb⟩
            have hm := congrArg (List.map (fun t : Tk => (t.cs.map (·.nx), t.vou))) hrs
            rw [K15.x3] at hm
            obtain ⟨ra, rb, rfl, hm1, hm2⟩ := K15.map2' hm
            rw [K15.x2] at hps ⊢
            simp only at hps ⊢
            have hlt := htl.1
            obtain ⟨p6, z6, rfl⟩ := hlt.shape
            obtain ⟨p7, z7, rfl⟩ := hps.shape
            exact hK.out _ _ hb (hG.trans (hb.mono hG.size)) ⟨p6, z6, p7, z7, ra, rb, rfl, hlt, congrArg Prod.fst hm1, congrArg Prod.snd hm2, htl.2 ra (by simp), hps⟩
          case s9 =>
            intro f W hG hW K hK
            try dsimp only at hG
            have e8 := hW 8 (by kernel_rfl)
            try dsimp only at e8
            simp only [putF, Act.put, List.setIfInBounds_toArray, List.set_cons_zero, List.set_cons_succ, Nat.reduceAdd, Nat.zero_add] at hK ⊢
            clear hW
            go_simp
            refine hK.out _ _ (Below.refl _ _) hG ?_
            exact e8
          case s10 =>
            intro f W hG hW K hK
            try dsimp only at hG
            have e9 := hW 9 (by kernel_rfl)
            try dsimp only at e9
            simp only [putF, Act.put, List.setIfInBounds_toArray, List.set_cons_zero, List.set_cons_succ, Nat.reduceAdd, Nat.zero_add] at hK ⊢
            obtain ⟨p6, z6, p7, z7, ra, rb, h1, h2, h3, h4, h5, h6⟩ := e9
            simp only [h1] at hK ⊢
            clear hW
            go_simp
            refine hK.out _ _ (Below.refl _ _) hG ?_
            exact ⟨p6, z6, ra, rb, rfl, h2, h3, h4, h5⟩
          case s11 =>
            intro f W hG hW K hK
            try dsimp only at hG
            have e9 := hW 9 (by kernel_rfl)
            try dsimp only at e9
            simp only [putF, Act.put, List.setIfInBounds_toArray, List.set_cons_zero, List.set_cons_succ, Nat.reduceAdd, Nat.zero_add] at hK ⊢
            obtain ⟨p6, z6, p7, z7, ra, rb, h1, h2, h3, h4, h5, h6⟩ := e9
            simp only [h1] at hK ⊢
            clear hW
            go_simp
            refine hK.out _ _ (Below.refl _ _) hG ?_
            exact ⟨p7, z7, rfl, h6⟩
          case s12 =>
            intro f W hG hW K hK
            try dsimp only at hG
            have e9 := hW 9 (by kernel_rfl)
            try dsimp only at e9
            simp only [putF, Act.put, List.setIfInBounds_toArray, List.set_cons_zero, List.set_cons_succ, Nat.reduceAdd, Nat.zero_add] at hK ⊢
            obtain ⟨p6, z6, p7, z7, ra, rb, h1, h2, h3, h4, h5, h6⟩ := e9
            simp only [h1] at hK ⊢
            clear hW
            go_simp
            refine hK.out _ _ (Below.refl _ _) hG ?_
            rfl
          case s13 =>
            intro f W hG hW K hK
            try dsimp only at hG
            have e0 := hW 0 (by kernel_rfl)
            change f 0 = .slice (some ⟨bm, om, none⟩) 1 z3 at e0
            have e1 := hW 1 (by kernel_rfl)
            change f 1 = .pointer (some ⟨bm, om, none⟩) at e1
            have e2 := hW 2 (by kernel_rfl)
            change f 2 = .agg #[.int .u64 K15.t3.num, .string K15.t3.loc, .int .i64 K15.t3.iss, .slice cc.p cc.n cc.c, .slice xx.p xx.n xx.c, .int .u64 K15.t3.prev, .int .u64 K15.t3.org, .int .u64 K15.t3.fst, .int .i64 K15.t3.vou, .int .i64 K15.t3.posts, .slice hh.p hh.n hh.c] at e2
            have e3 := hW 3 (by kernel_rfl)
            change f 3 = .int .u64 1230000000040 at e3
            have e4 := hW 4 (by kernel_rfl)
            change f 4 = .agg #[.int .i64 7, .int .i64 9, .int .i64 50, .int .i64 0, .int .i64 0, .int .u64 0] at e4
            have e5 := hW 5 (by kernel_rfl)
            try dsimp only at e5
            have e6 := hW 6 (by kernel_rfl)
            change f 6 = .agg #[.int .i64 1, .int .i64 20] at e6
            have e7 := hW 7 (by kernel_rfl)
            try dsimp only at e7
            have e8 := hW 8 (by kernel_rfl)
            try dsimp only at e8
            have e9 := hW 9 (by kernel_rfl)
            try dsimp only at e9
            have e10 := hW 10 (by kernel_rfl)
            try dsimp only at e10
            simp only [putF, Act.put, List.setIfInBounds_toArray, List.set_cons_zero, List.set_cons_succ, Nat.reduceAdd, Nat.zero_add] at hK ⊢
            (try rw [e0])
            (try rw [e0] at hK)
            (try rw [e1])
            (try rw [e1] at hK)
            (try rw [e2])
            (try rw [e2] at hK)
            (try rw [e3])
            (try rw [e3] at hK)
            (try rw [e4])
            (try rw [e4] at hK)
            (try rw [e6])
            (try rw [e6] at hK)
            clear hW
            go_simp
            refine hK.out _ _ (Below.refl _ _) hG ?_
            exact e10
          case s14 =>
            intro f W hG hW K hK
            try dsimp only at hG
            have e0 := hW 0 (by kernel_rfl)
            change f 0 = .slice (some ⟨bm, om, none⟩) 1 z3 at e0
            have e1 := hW 1 (by kernel_rfl)
            change f 1 = .pointer (some ⟨bm, om, none⟩) at e1
            have e2 := hW 2 (by kernel_rfl)
            change f 2 = .agg #[.int .u64 K15.t3.num, .string K15.t3.loc, .int .i64 K15.t3.iss, .slice cc.p cc.n cc.c, .slice xx.p xx.n xx.c, .int .u64 K15.t3.prev, .int .u64 K15.t3.org, .int .u64 K15.t3.fst, .int .i64 K15.t3.vou, .int .i64 K15.t3.posts, .slice hh.p hh.n hh.c] at e2
            have e3 := hW 3 (by kernel_rfl)
            change f 3 = .int .u64 1230000000040 at e3
            have e4 := hW 4 (by kernel_rfl)
            change f 4 = .agg #[.int .i64 7, .int .i64 9, .int .i64 50, .int .i64 0, .int .i64 0, .int .u64 0] at e4
            have e5 := hW 5 (by kernel_rfl)
            try dsimp only at e5
            have e6 := hW 6 (by kernel_rfl)
            change f 6 = .agg #[.int .i64 1, .int .i64 20] at e6
            have e7 := hW 7 (by kernel_rfl)
            try dsimp only at e7
            have e8 := hW 8 (by kernel_rfl)
            try dsimp only at e8
            have e9 := hW 9 (by kernel_rfl)
            try dsimp only at e9
            have e10 := hW 10 (by kernel_rfl)
            try dsimp only at e10
            have e11 := hW 11 (by kernel_rfl)
            try dsimp only at e11
            have e13 := hW 13 (by kernel_rfl)
            try dsimp only at e13
            simp only [putF, Act.put, List.setIfInBounds_toArray, List.set_cons_zero, List.set_cons_succ, Nat.reduceAdd, Nat.zero_add] at hK ⊢
            (try rw [e0])
            (try rw [e0] at hK)
            (try rw [e1])
            (try rw [e1] at hK)
            (try rw [e2])
            (try rw [e2] at hK)
            (try rw [e3])
            (try rw [e3] at hK)
            (try rw [e4])
            (try rw [e4] at hK)
            (try rw [e6])
            (try rw [e6] at hK)
            clear hW
            go_simp
            refine hK.out _ _ (Below.refl _ _) hG ?_
            exact e11
          case s15 =>
            intro f W hG hW K hK
            try dsimp only at hG
            have e0 := hW 0 (by kernel_rfl)
            change f 0 = .slice (some ⟨bm, om, none⟩) 1 z3 at e0
            have e1 := hW 1 (by kernel_rfl)
            change f 1 = .pointer (some ⟨bm, om, none⟩) at e1
            have e2 := hW 2 (by kernel_rfl)
            change f 2 = .agg #[.int .u64 K15.t3.num, .string K15.t3.loc, .int .i64 K15.t3.iss, .slice cc.p cc.n cc.c, .slice xx.p xx.n xx.c, .int .u64 K15.t3.prev, .int .u64 K15.t3.org, .int .u64 K15.t3.fst, .int .i64 K15.t3.vou, .int .i64 K15.t3.posts, .slice hh.p hh.n hh.c] at e2
            have e3 := hW 3 (by kernel_rfl)
            change f 3 = .int .u64 1230000000040 at e3
            have e4 := hW 4 (by kernel_rfl)
            change f 4 = .agg #[.int .i64 7, .int .i64 9, .int .i64 50, .int .i64 0, .int .i64 0, .int .u64 0] at e4
            have e5 := hW 5 (by kernel_rfl)
            try dsimp only at e5
            have e6 := hW 6 (by kernel_rfl)
            change f 6 = .agg #[.int .i64 1, .int .i64 20] at e6
            have e7 := hW 7 (by kernel_rfl)
            try dsimp only at e7
            have e8 := hW 8 (by kernel_rfl)
            try dsimp only at e8
            have e9 := hW 9 (by kernel_rfl)
            try dsimp only at e9
            have e10 := hW 10 (by kernel_rfl)
            try dsimp only at e10
            have e11 := hW 11 (by kernel_rfl)
            try dsimp only at e11
            have e12 := hW 12 (by kernel_rfl)
            change f 12 = .int .i64 0 at e12
            have e13 := hW 13 (by kernel_rfl)
            try dsimp only at e13
            have e14 := hW 14 (by kernel_rfl)
            try dsimp only at e14
            simp only [putF, Act.put, List.setIfInBounds_toArray, List.set_cons_zero, List.set_cons_succ, Nat.reduceAdd, Nat.zero_add] at hK ⊢
            (try rw [e0])
            (try rw [e0] at hK)
            (try rw [e1])
            (try rw [e1] at hK)
            (try rw [e2])
            (try rw [e2] at hK)
            (try rw [e3])
            (try rw [e3] at hK)
            (try rw [e4])
            (try rw [e4] at hK)
            (try rw [e6])
            (try rw [e6] at hK)
            (try rw [e12])
            (try rw [e12] at hK)
            clear hW
            go_simp
            refine hK.out _ _ (Below.refl _ _) hG ?_
            first | with_reducible rfl | rfl
        case iD =>
          intro f W hG hR
          try dsimp only at hG
          have r0 := hR 0 (by decide)
          change f 0 = .slice (some ⟨bm, om, none⟩) 1 z3 at r0
          have r1 := hR 1 (by decide)
          change f 1 = .pointer (some ⟨bm, om, none⟩) at r1
          have r2 := hR 2 (by decide)
          change f 2 = .agg #[.int .u64 K15.t3.num, .string K15.t3.loc, .int .i64 K15.t3.iss, .slice cc.p cc.n cc.c, .slice xx.p xx.n xx.c, .int .u64 K15.t3.prev, .int .u64 K15.t3.org, .int .u64 K15.t3.fst, .int .i64 K15.t3.vou, .int .i64 K15.t3.posts, .slice hh.p hh.n hh.c] at r2
          have r3 := hR 3 (by decide)
          change f 3 = .int .u64 1230000000040 at r3
          have r4 := hR 4 (by decide)
          change f 4 = .agg #[.int .i64 7, .int .i64 9, .int .i64 50, .int .i64 0, .int .i64 0, .int .u64 0] at r4
          have r5 := hR 5 (by decide)
          try dsimp only at r5
          have r6 := hR 6 (by decide)
          change f 6 = .agg #[.int .i64 1, .int .i64 20] at r6
          have r7 := hR 7 (by decide)
          try dsimp only at r7
          have r8 := hR 8 (by decide)
          try dsimp only at r8
          have r9 := hR 9 (by decide)
          try dsimp only at r9
          have r10 := hR 10 (by decide)
          try dsimp only at r10
          have r11 := hR 11 (by decide)
          try dsimp only at r11
          have r12 := hR 12 (by decide)
          change f 12 = .int .i64 0 at r12
          have r13 := hR 13 (by decide)
          try dsimp only at r13
          have r14 := hR 14 (by decide)
          try dsimp only at r14
          have r15 := hR 15 (by decide)
          change f 15 = .int .i64 0 at r15
          clear hR
          simp only [putF, Act.put, List.setIfInBounds_toArray, List.set_cons_zero, List.set_cons_succ, Nat.reduceAdd, Nat.zero_add]
          (try rw [r0])
          (try rw [r1])
          (try rw [r2])
          (try rw [r3])
          (try rw [r4])
          (try rw [r6])
          (try rw [r12])
          (try rw [r15])
          have hbn := hG
          obtain ⟨p6, z6, ra, rb, hv6, hl6, hna, hnb, hta⟩ := r13
          obtain ⟨p7, z7, hv7, hl7⟩ := r14
          rw [hv6, hv7]
          have HX9 := Lib.hid hl6; have HNA := Lib.hid hna; have HNB := Lib.hid hnb; have HTA := Lib.hid hta; have HL9 := Lib.hid hl7
          have HR9 := Lib.hid ((hbn.block _ (block_lt HR8.out)).trans HR8.out); have HQ9 := Lib.hid (HQ8.out.below hbn); have HT9 := Lib.hid (HT8.out.below hbn); have HB9 := Lib.hid (HB8.out.trans (hbn.mono HB8.out.size))
          clear hG hbn r0 r1 r2 r3 r4 r5 r6 r7 r8 r9 r10 r11 r12 r15 hv6 hv7 hl6 hna hnb hta hl7
          clear HR8 HQ8 HT8 HB8 HBX HRM HRS
          generalize W = w9 at *
          have HF4 : Hid (∀ W : World, Calls Try.prog 13 #[.int .i64 4] W fun e w' => e = .returned (.int .u64 1230000000040) ∧ Below W.heap.size W w') := Lib.hid (fun W => (HF.out 4 W).mono (fun e w' h => ⟨h.1.trans (by rw [K15.m4]), h.2⟩))
          obtain ⟨rt', ct', xt', ht'⟩ := ra
          obtain ⟨pc, nc, cc'⟩ := ct'
          obtain ⟨pa, na, ca⟩ := a'
          simp only at HNA HTA HR9 HT9
          have hca := HTA.out.cs
          obtain ⟨y, hy, hny⟩ := K15.map1c HNA.out
          simp only at hca
          rw [hy] at hca
          have hn1 : nc = 1 := hca.length.1
          subst hn1
          obtain ⟨bc, oc, hpc, hlc, hc0⟩ := hca.at (i := 0) rfl
          subst hpc
          have hct := HT9.out.cs
          simp only at hct
          rw [HCS.out] at hct
          have hn2 : na = 1 := hct.length.1
          subst hn2
          obtain ⟨ba, oa, hpa, hla, ha0⟩ := hct.at (i := 0) rfl
          subst hpa
          obtain ⟨bq, oq, hpq, hlq, hq0⟩ := HQ9.out.at (i := 0) rfl
          subst hpq
          obtain ⟨br, or, hpr, hlr, hr0⟩ := HL9.out.at (i := 0) rfl
          subst hpr
          obtain ⟨bx, ox, hpx, hlx, hx0⟩ := HX9.out.at (i := 0) rfl
          subst hpx
          obtain ⟨bx', ox', e9', -, hx1⟩ := HX9.out.at (i := 1) rfl
          have e10' : bx = bx' ∧ ox = ox' := by injection e9' with e9'; injection e9' with e9' e8'; exact ⟨e9', e8'⟩
          obtain ⟨rfl, rfl⟩ := e10'
          clear e9'
          have k1 : w9.cell? ⟨g8, 3, none⟩ = some (.slice (some ⟨ba, oa, none⟩) 1 ca) := by rw [cell_of_row w9 g8 _ _ _ _ HR9.out]; rfl
          have k2 := ha0 3 _ rfl
          have k3 := hc0 5 _ rfl
          have k4 := hq0 4 _ rfl
          have k5 := hq0 5 _ rfl
          have k6 := hq0 7 _ rfl
          have k7 := hq0 8 _ rfl
          have k8 := hr0 9 _ rfl
          have k9 := hr0 5 _ rfl
          have k10 := hr0 8 _ rfl
          have k11 := hx1 8 _ rfl
          have k12 := hx0 3 _ rfl
          rw [hny] at k3
          rw [HNB.out] at k11
          simp only [Nat.zero_mul, Nat.one_mul, Nat.add_zero] at k2 k3 k4 k5 k6 k7 k8 k9 k10 k11 k12
          clear hc0 ha0 hq0 hr0 hx0 hx1 hy hca hct hny HNA HNB HTA HX9 HL9 HQ9 HT9 HCS
          have hlg : g8 < w9.heap.size := block_lt HR9.out
          go_upto_region 16 with fail
          have hL := @Later.cell
          refine wp_region_later (by kernel_rfl) (by kernel_rfl) ?_
          simp only [List.append]
          repeat (go_big_quiet_step ((go_at_call 13; exact later_call (HF4.out _))))
          refine wpQuiet_nil ?_
          rintro w10 ⟨u, rfl⟩
          have HBU := Lib.hid (HB9.out.trans (u.prop.mono HB9.out.size))
          clear hL
          go_wp2
          go_ret
          exact ⟨rfl, HBU.out⟩
end Go.Proofs.Ytadabjkhiaidcaa
