/- WireApart returns true for all bytes and numbers, and leaves the memory that was there as it was. -/
import Derived.Test.YtfpcpnjegbmdbaaReadA
import Derived.Test.YtfpcpnjegbmdbaaBytes
import Derived.Laws.OwnMore
set_option linter.unusedVariables false
set_option linter.unusedSimpArgs false
namespace Go.Proofs.Ytfpcpnjegbmdbaa
open Go.RowKit

theorem own_far {w w' : World} {base e n : Nat} {row : Option Nat} {v : Value} {xs : List Value} (h : w.ownsRow base e 1 v n xs) (hg : w.grownBy w' row) (hr : ∀ g, row = some g → g < base) : w'.ownsRow base e 1 v n xs :=
  h.kept hg (by
    rcases h.2 with ⟨rfl, _⟩ | ⟨g', cap, cur, rfl, hb, _⟩
    · exact .inl rfl
    · refine .inr (fun e => ?_)
      have := hr g' (by rw [← e]; rfl)
      omega)
theorem IsW.far {w w' : World} {base bw k : Nat} {row : Option Nat} {st : Option (List UInt8)} (h : IsW w base bw k st) (hg : w.grownBy w' row) (hr : ∀ g, row = some g → g < base) : IsW w' base bw k st := by
  have hlt := h.lt
  have hbw : w'.heap[bw]? = w.heap[bw]? := hg.block bw hlt.2 (fun e => by have := hr bw e.symm; omega)
  obtain ⟨hb, h⟩ := h
  refine ⟨hb, ?_⟩
  cases st with
  | none => exact hbw.trans h
  | some l =>
    obtain ⟨pv, ps, vs, h1, h2, h3, h4, h5, h6⟩ := h
    exact ⟨pv, ps, vs, hbw.trans h1, h2, h3, h4, own_far h5 hg hr, fun i x b hx hb => own_far (h6 i x b hx hb) hg hr⟩
theorem IsR.far {w w' : World} {base br : Nat} {row : Option Nat} {st : Option (List UInt8)} (h : IsR w base br st) (hg : w.grownBy w' row) (hr : ∀ g, row = some g → g < base) : IsR w' base br st := by
  have hlt := h.lt
  obtain ⟨hb, g, cap, a, bad, L, h1, h2, h3⟩ := h
  exact ⟨hb, g, cap, a, bad, L, (hg.block br hlt.2 (fun e => by have := hr br e.symm; omega)).trans h1, own_far h2 hg hr, h3⟩
theorem IsR.kept {w w' : World} {base br : Nat} {st : Option (List UInt8)} (h : IsR w base br st) (hk : Kept WT w w') : IsR w' base br st := by
  obtain ⟨hb, g, cap, a, bad, L, h1, h2, h3⟩ := h
  refine ⟨hb, g, cap, a, bad, L, hk.block _ _ _ _ h1 (by decide), ?_, h3⟩
  obtain ⟨hl, hor⟩ := h2
  refine ⟨hl, ?_⟩
  rcases hor with h | ⟨g', cap', cur, e, hg, hh, h4⟩
  · exact .inl h
  · exact .inr ⟨g', cap', cur, e, hg, hk.block _ _ _ _ hh (by decide), h4⟩
theorem own_kept {w w' : World} {base n : Nat} {v : Value} {xs : List Value} (h : w.ownsRow base 5 1 v n xs) (hk : Kept WT w w') : w'.ownsRow base 5 1 v n xs := by
  obtain ⟨hl, hor⟩ := h
  refine ⟨hl, ?_⟩
  rcases hor with h | ⟨g', cap', cur, e, hg, hh, h4⟩
  · exact .inl h
  · exact .inr ⟨g', cap', cur, e, hg, hk.block _ _ _ _ hh (by decide), h4⟩
/-- a row of bytes, one of them written over -/
theorem own_bump {w : World} {base g n cap j : Nat} {l : List UInt8} (h : w.ownsRow base 5 1 (.slice (some ⟨g, 0, none⟩) n cap) n (bytesV l)) (u : Int) (y : UInt8) (hu : u = (y.toNat : Int)) :
    (w.setCell ⟨g, j, none⟩ (.int .u8 u)).ownsRow base 5 1 (.slice (some ⟨g, 0, none⟩) n cap) n (bytesV (l.set j y)) ∧ w.grownBy (w.setCell ⟨g, j, none⟩ (.int .u8 u)) (some g) := by
  have h1 := h.stored j (.int .u8 u)
  refine ⟨?_, h1.2⟩
  have : bytesV (l.set j y) = (bytesV l).set j (.int .u8 u) := by unfold bytesV; rw [List.map_set, hu]
  rw [this]; exact h1.1
theorem BS.cut {w : World} {q : Option Addr} {n cap k : Nat} {l : List UInt8} (h : BS w (.slice q n cap) l) (hk : k ≤ n) : BS w (.slice q k cap) (l.take k) := by
  obtain ⟨p', cap', e, h1, h2, h3⟩ := h
  injection e with e1 e2 e3
  subst e1; subst e3
  have hl : (l.take k).length = k := by rw [List.length_take]; omega
  refine ⟨_, _, by rw [hl], by omega, h2, fun hne => ?_⟩
  obtain ⟨b, o, e, hb, hc⟩ := h3 (fun h => hne (by rw [h]; simp))
  refine ⟨b, o, e, hb, fun i x hx => hc i x ?_⟩
  have hi : i < k := by have := (List.getElem?_eq_some_iff.1 hx).1; omega
  rwa [List.getElem?_take_of_lt hi] at hx
theorem BS.bounds {w : World} {q : Option Addr} {n cap : Nat} {l : List UInt8} (h : BS w (.slice q n cap) l) : n = l.length ∧ n ≤ cap ∧ cap ≤ maxLen := by
  obtain ⟨p', cap', e, h1, h2, h3⟩ := h
  injection e with e1 e2 e3
  subst e1; subst e3
  exact ⟨e2, by omega, h2⟩
theorem BS.drewN {w : World} {v : Value} {l : List UInt8} (h : BS w v l) (n : Nat) : BS (w.drewN n) v l := h.below (below_drewN w n)
theorem add_str (a b : ByteArray) (h : a.size + b.size ≤ 1000000) (W : World) : (binOp .add 9 (.string a) (.string b)).run Try.prog W = .ok (.string (a ++ b)) W := by
  have h2 : ¬ (((a.size + b.size : Nat) : Int) > IntKind.i64.max) := by simp [IntKind.max, IntKind.signed, IntKind.bits]; omega
  simp only [binOp, Op.stringOp]
  rw [if_neg h2]
  rfl
theorem run_head (q : Option Addr) (n cap k : Nat) (h : k ≤ cap) (W : World) : (Instr.slice 29 (.slice q n cap) none (some (.int .i64 (k : Int))) none).run Try.prog W = .ok (.slice q k cap) W := by
  have ht : Try.prog.underlying 29 = some (.slice (Try.prog.elem 29)) := by kernel_rfl
  have hz : ∀ W : World, (sizeOf (Try.prog.elem 29)).run Try.prog W = .ok 1 W := fun W => by
    rw [show Try.prog.elem 29 = 5 from by kernel_rfl]; simp [go_sem]
  rw [run_slice_h W _ _ _ _ ht _ _ (by omega) (by omega), hz]
  cases q <;> simp [sliced, Result.andThen, Addr.add]
theorem blob_small {st : Option (List UInt8)} {b : List UInt8} {l : List UInt8} (hst : st = some l) (h : b.length ≤ 16777216) : Wire.wBlob st b = some (l ++ (Wire.be b.length 4 ++ b)) := by
  subst hst
  unfold Wire.wBlob
  rw [if_pos h]
  have : Wire.wNum (some l) b.length ((4 : Nat) : Int) = some (l ++ Wire.be b.length 4) := by
    unfold Wire.wNum
    rw [if_pos ⟨by decide, by rw [Int.toNat_natCast]; omega⟩, Int.toNat_natCast]; rfl
  show Wire.wBytes (Wire.wNum (some l) b.length ((4 : Nat) : Int)) b = _
  rw [this]
  simp [Wire.wBytes]
theorem num_eight {l : List UInt8} {N : Nat} (h : N < 18446744073709551616) : Wire.wNum (some l) N 8 = some (l ++ Wire.be N 8) := by
  show Wire.wNum (some l) N ((8 : Nat) : Int) = _
  unfold Wire.wNum
  rw [if_pos ⟨by decide, by rw [Int.toNat_natCast]; simpa using h⟩, Int.toNat_natCast]; rfl
end Go.Proofs.Ytfpcpnjegbmdbaa
namespace Go.Proofs.Ytfpcpnjegbmdbaa.wireApart
open Go.ChangeShapes Go.WideShapes Go.ChangeAt Go.RowKit

set_option maxRecDepth 1000000 in
set_option maxHeartbeats 4000000 in
theorem walk (v : Value) (b : List UInt8) (n : Int) (wn : (Lit.int .u64 n).wf = true) (w : World) (hv : BS w v b) :
    Calls Try.prog 4 #[v, .int .u64 n] w fun e w' => e = .returned (.bool true) ∧ Below w.heap.size w w' := by
  have hnb := u64_bdW wn
  clear wn
  obtain ⟨N, rfl⟩ := Int.eq_ofNat_of_zero_le hnb.1
  have hN : N < 18446744073709551616 := by omega
  clear hnb
  have HV := Lib.hid hv
  obtain ⟨p, cap, rfl, g1, g2, -⟩ := hv
  unfold maxLen at g2
  generalize hm : b.length = m at *
  have HM := Lib.hid hm; clear hm
  by_cases hbig : 2000 < m
  · go_enter Try.func4, Try.ntmps4
    go_wp2_with fail
    refine (known01_any _).mono ?_
    rintro e w1 ⟨rfl, hb1⟩
    go_wp2
    go_ret
    exact ⟨rfl, hb1⟩
  · go_enter Try.func4, Try.ntmps4
    go_wp2_with (at_builtin; refine wpList_append_bytes rfl _ _ rfl w.heap.size _ 0 [] rfl (World.ownsRow_nil _ _ _ _) _ b rfl HV.out ?c1 (Nat.le_refl _) ?_)
    case c1 => have := HM.out; omega
    intro v1 w1 hown1 hg1 hn1 hat1
    have HB1 : Hid (Below w.heap.size w w1) := Lib.hid ((Below.refl _ _).grown hg1 (Nat.le_refl _) (fun q hq => by cases hq))
    have HO1 : Hid (w1.ownsRow w.heap.size 5 1 v1 m (bytesV b)) := Lib.hid (by have := hown1; simpa [HM.out] using this)
    clear hown1 hg1 hn1 hat1
    have hlt1 : ∀ q, v1.ownBlock = some q → q < w1.heap.size := fun q hq => (HO1.out.lt q hq).2
    have HLT1 := Lib.hid hlt1; clear hlt1
    obtain ⟨q1, c1, rfl⟩ := own_form HO1.out
    have HW0 := Lib.hid (new_writer w1)
    have HA0 : Hid (Below w1.heap.size w1 (w1.alloc (.cells #[.slice none 0 0, .int .i64 0, .bool false] 28 (0, 0)))) := Lib.hid ((Below.refl _ _).alloc (Nat.le_refl _) _)
    have HK0 := Lib.hid ((BK.of_own (base := w1.heap.size) HO1.out).below HA0.out)
    have HE1 : Hid (Wire.wBlob (some []) b = some (Wire.be m 4 ++ b)) := Lib.hid (by rw [blob_small rfl (by have := HM.out; omega), HM.out]; rfl)
    go_wp2_with fail
    refine (wblob_any w1.heap.size w1.heap.size 0 (some []) _ b (by have := HM.out; omega) _ HW0.out HK0.out).mono ?_
    rintro e w2 ⟨rfl, hs2⟩
    rw [HE1.out] at hs2
    have HS2 := Lib.hid hs2
    have HK2 := Lib.hid (HK0.out.step hs2)
    clear hs2
    go_wp2_with fail
    refine (wbytes_any w1.heap.size w1.heap.size _ _ _ b (by have := HM.out; omega) _ HS2.out.1 HK2.out.1).mono ?_
    rintro e w3 ⟨rfl, hs3⟩
    have HS3 : Hid (WStep _ w3 w1.heap.size w1.heap.size 100000 (some (Wire.be m 4 ++ b ++ b))) := Lib.hid ((HS2.out.trans hs3).mono (by have := HM.out; omega))
    have HO3 := Lib.hid (own_kept (own_below HO1.out HA0.out) HS3.out.2.2)
    have HB3 : Hid (Below w.heap.size w w3) := Lib.hid (HB1.out.trans ((HA0.out.mono HB1.out.size).trans (HS3.out.2.1.mono HB1.out.size)))
    clear hs3
    go_wp2_with fail
    refine (read_any _ b (by have := HM.out; omega) _ (BS.of_own HO3.out)).mono ?_
    rintro e w4 ⟨br, rfl, hr4, hb4⟩
    have HR4 := Lib.hid hr4
    have HI4 := Lib.hid (HS3.out.1.below hb4)
    have HO4 := Lib.hid (own_below HO3.out hb4)
    have HB4 := Lib.hid (HB3.out.trans (hb4.mono HB3.out.size))
    have hs34 : w1.heap.size ≤ w3.heap.size := by have := HA0.out.size; have := HS3.out.2.1.size; simp at *; omega
    clear hr4 hb4
    go_wp2_with fail
    go_loopw [8] (fun i wr => ∃ (j : Nat) (l : List UInt8), j ≤ m ∧ i = .int .i64 j ∧ l.length = m ∧ wr.ownsRow w.heap.size 5 1 (.slice q1 m c1) m (bytesV l) ∧ w4.grownBy wr (Value.slice q1 m c1).ownBlock) (fun i _ => m - (intOf i).toNat)
    case atStart => exact ⟨0, b, Nat.zero_le _, rfl, HM.out, HO4.out, World.grownBy.refl _ _⟩
    case round =>
      obtain ⟨j, l, hj, rfl, hl, hown, hgr⟩ := hrel
      have HLL := Lib.hid hl; clear hl
      have HOW := Lib.hid hown
      have HGR := Lib.hid hgr; clear hgr
      by_cases hjm : j < m
      · obtain ⟨x, hx⟩ : ∃ x, l[j]? = some x := ⟨_, List.getElem?_eq_getElem (by have := HLL.out; omega)⟩
        obtain ⟨g, rfl⟩ : ∃ g, q1 = some ⟨g, 0, none⟩ := by
          rcases hown.2 with ⟨h, h0⟩ | ⟨g, c, cur, h, _⟩
          · omega
          · injection h with h; exact ⟨g, h⟩
        have hcell : wr.cell? ⟨g, j, none⟩ = some (.int .u8 (x.toNat : Int)) := by rw [hown.cellAt j (by omega), bytesV_at, hx]; rfl
        have hfrz := hown.frozenAt j
        have hxl := x.toNat_lt
        obtain ⟨y, hy⟩ : ∃ y : UInt8, (y.toNat : Int) = ((x.toNat : Int) + 1) % 256 := ⟨UInt8.ofNat ((x.toNat + 1) % 256), by rw [UInt8.toNat_ofNat']; omega⟩
        have HBU := Lib.hid (fun u hu => own_bump (j := j) HOW.out u y hu)
        have HLS : Hid ((l.set j y).length = m) := Lib.hid (by rw [List.length_set]; exact HLL.out)
        clear hown hx
        generalize (x.toNat : Int) = xi at *
        go_wp2
        go_roundw
        case rel => exact ⟨j + 1, l.set j y, by omega, by go_num, HLS.out, (HBU.out _ (by first | exact hy.symm | (rw [hy]; go_num) | omega)).1, HGR.out.trans (HBU.out _ (by first | exact hy.symm | (rw [hy]; go_num) | omega)).2⟩
        case measure => simp [intOf]; omega
      · obtain rfl : j = m := by omega
        have HI5 : Hid (IsW wr w1.heap.size w1.heap.size 100000 (some (Wire.be j 4 ++ b ++ b))) := Lib.hid (HI4.out.far HGR.out (fun g h => HLT1.out g h))
        have HR5 : Hid (IsR wr w3.heap.size br (some b)) := Lib.hid (HR4.out.far HGR.out (fun g h => by have := HLT1.out g h; omega))
        have HB5 : Hid (Below w.heap.size w wr) := Lib.hid (HB4.out.grown HGR.out HB4.out.size (fun g h => (HO4.out.lt g h).1))
        have hs15 : w1.heap.size ≤ wr.heap.size := Nat.le_trans (Nat.le_trans hs34 (by have := HR4.out.lt; omega)) HGR.out.size
        clear hown hj hjm HOW HGR HLL
        generalize wr = w5 at *
        clear HI4 HR4 HO4 HB4
        obtain ⟨D, hD⟩ : ∃ D, Wire.be j 4 ++ b ++ b = D := ⟨_, rfl⟩
        rw [hD] at HI5
        have HDL : Hid (D.length = j + j + 4) := Lib.hid (by rw [← hD, List.length_append, List.length_append, Wire.be_length, HM.out]; omega)
        have HD4 : Hid (D.take 4 = Wire.be j 4) := Lib.hid (by rw [← hD, List.append_assoc, List.take_append_of_le_length (by rw [Wire.be_length]; omega), List.take_of_length_le (by rw [Wire.be_length]; omega)])
        have HDE := Lib.hid hD; clear hD
        go_wp2_with fail
        refine (wend_some _ _ _ _ (by decide) _ HI5.out).mono ?_
        rintro e w6 ⟨v6, rfl, hown6, hb6⟩
        obtain ⟨dl, hdl⟩ : ∃ dl, D.length = dl := ⟨_, rfl⟩
        rw [hdl] at hown6
        have hdl4 : 4 ≤ dl := by rw [← hdl, HDL.out]; omega
        have hdl5 : dl ≤ 4004 := by rw [← hdl, HDL.out]; omega
        have HO6 := Lib.hid hown6
        have HB6 := Lib.hid hb6
        obtain ⟨q6, c6, rfl⟩ := own_form hown6
        have HLT6 : Hid (∀ q, (Value.slice q6 dl c6).ownBlock = some q → w5.heap.size ≤ q ∧ q < w6.heap.size) := Lib.hid (fun q hq => HO6.out.lt q hq)
        have HDD := Lib.hid hdl
        clear hown6 hb6 hdl
        go_wp2_with (at_builtin; refine wpList_append_bytes rfl _ _ rfl w6.heap.size _ 0 [] rfl (World.ownsRow_nil _ _ _ _) _ D rfl (BS.of_own HO6.out) ?c1 (Nat.le_refl _) ?_)
        case c1 => have := HDD.out; omega
        intro v7 w7 hown7 hg7 hn7 hat7
        have HB7 : Hid (Below w6.heap.size w6 w7) := Lib.hid ((Below.refl _ _).grown hg7 (Nat.le_refl _) (fun q hq => by cases hq))
        have HO7 : Hid (w7.ownsRow w6.heap.size 5 1 v7 dl (bytesV D)) := Lib.hid (by have := hown7; simpa [HDD.out] using this)
        have HO6' := Lib.hid (own_below HO6.out HB7.out)
        clear hown7 hg7 hn7 hat7
        obtain ⟨q7, c7, rfl⟩ := own_form HO7.out
        obtain ⟨B5, hB5⟩ : ∃ B, w5.heap.size = B := ⟨_, rfl⟩
        rw [hB5] at HO6' HLT6 hs15
        have HB5E := Lib.hid hB5; clear hB5
        go_wp2_with fail
        go_loopw [12] (fun i wr => ∃ (j : Nat) (l : List UInt8), j ≤ dl ∧ i = .int .i64 j ∧ l.length = dl ∧ wr.ownsRow B5 5 1 (.slice q6 dl c6) dl (bytesV l) ∧ w7.grownBy wr (Value.slice q6 dl c6).ownBlock) (fun i _ => dl - (intOf i).toNat)
        case atStart => exact ⟨0, D, Nat.zero_le _, rfl, HDD.out, HO6'.out, World.grownBy.refl _ _⟩
        case round =>
          obtain ⟨k, l2, hk, rfl, hl, hown, hgr⟩ := hrel
          have HLL := Lib.hid hl; clear hl
          have HOW := Lib.hid hown
          have HGR := Lib.hid hgr; clear hgr
          by_cases hkd : k < dl
          · obtain ⟨x, hx⟩ : ∃ x, l2[k]? = some x := ⟨_, List.getElem?_eq_getElem (by have := HLL.out; omega)⟩
            obtain ⟨g, rfl⟩ : ∃ g, q6 = some ⟨g, 0, none⟩ := by
              rcases hown.2 with ⟨h, h0⟩ | ⟨g, c, cur, h, _⟩
              · omega
              · injection h with h; exact ⟨g, h⟩
            have hcell : wr.cell? ⟨g, k, none⟩ = some (.int .u8 (x.toNat : Int)) := by rw [hown.cellAt k (by omega), bytesV_at, hx]; rfl
            have hfrz := hown.frozenAt k
            have hxl := x.toNat_lt
            obtain ⟨y, hy⟩ : ∃ y : UInt8, (y.toNat : Int) = ((x.toNat : Int) + 1) % 256 := ⟨UInt8.ofNat ((x.toNat + 1) % 256), by rw [UInt8.toNat_ofNat']; omega⟩
            have HBU := Lib.hid (fun u hu => own_bump (j := k) HOW.out u y hu)
            have HLS : Hid ((l2.set k y).length = dl) := Lib.hid (by rw [List.length_set]; exact HLL.out)
            clear hown hx
            generalize (x.toNat : Int) = xi at *
            go_wp2
            go_roundw
            case rel => exact ⟨k + 1, l2.set k y, by omega, by go_num, HLS.out, (HBU.out _ (by first | exact hy.symm | (rw [hy]; go_num) | omega)).1, HGR.out.trans (HBU.out _ (by first | exact hy.symm | (rw [hy]; go_num) | omega)).2⟩
            case measure => simp [intOf]; omega
          · obtain rfl : k = dl := by omega
            have HBX : Hid (Below B5 w5 wr) := Lib.hid (by
              have h1 := HB6.out
              rw [HB5E.out] at h1
              have h2 := h1.trans (HB7.out.mono (by have := h1.size; have := HB5E.out; omega))
              exact h2.grown HGR.out (by have := h2.size; have := HB5E.out; omega) (fun g h => (HLT6.out g h).1))
            have HBX' : Hid (Below w5.heap.size w5 wr) := Lib.hid (by rw [HB5E.out]; exact HBX.out)
            have HI8 := Lib.hid (HI5.out.below HBX'.out)
            have HR8 := Lib.hid (HR5.out.below HBX'.out)
            have HO8 := Lib.hid (own_far HO7.out HGR.out (fun g h => (HLT6.out g h).2))
            have HB8 := Lib.hid (HB5.out.trans (HBX'.out.mono HB5.out.size))
            clear hown hk hkd HOW HGR HLL HO6' HO7 HBX HBX'
            generalize wr = w8 at *
            have HNE := Lib.hid (num_eight (l := D) hN)
            go_wp2_with fail
            refine (wnumber_any _ _ _ _ N hN 8 (by decide) _ HI8.out).mono ?_
            rintro e w9 ⟨rfl, hs9⟩
            rw [HNE.out] at hs9
            have HI9 := Lib.hid hs9.1
            have HR9 := Lib.hid (HR8.out.kept hs9.2.2)
            have HO9 := Lib.hid (own_kept HO8.out hs9.2.2)
            have HB9 := Lib.hid (HB8.out.trans (hs9.2.1.mono HB1.out.size))
            clear hs9
            go_wp2_with fail
            refine (wend_some _ _ _ _ (by decide) _ HI9.out).mono ?_
            rintro e w10 ⟨v10, rfl, hown10, hb10⟩
            rw [List.length_append, Wire.be_length, HDD.out] at hown10
            have HZ := Lib.hid (BS.of_own hown10)
            obtain ⟨q10, c10, rfl⟩ := own_form hown10
            have HR10 := Lib.hid (HR9.out.below hb10)
            have HY10 := Lib.hid (BS.of_own (own_below HO9.out hb10))
            have HB10 := Lib.hid (HB9.out.trans (hb10.mono HB9.out.size))
            clear hown10 hb10
            have HZC : Hid (BS w10 (.slice q10 k c10) D) := Lib.hid (by have := HZ.out.cut (k := k) (by omega); rwa [List.take_append_of_le_length (by rw [HDD.out]; omega), List.take_of_length_le (by rw [HDD.out]; omega)] at this)
            have HYC : Hid (BS w10 (.slice q7 4 c7) (Wire.be j 4)) := Lib.hid (by have := HY10.out.cut (k := 4) (by omega); rwa [HD4.out] at this)
            have hzb := HZ.out.bounds
            have hyb := HY10.out.bounds
            have z1 : k ≤ c10 := by omega
            have z2 : 4 ≤ c7 := by omega
            have f1 := run_head q10 (k + 8) c10 k z1
            have f2 := run_head q7 k c7 4 z2
            rw [show ((4 : Nat) : Int) = 4 from rfl] at f2
            have f3 := fun n => (HZC.out.drewN n).to_string
            have f4 := fun n => (HY10.out.drewN n).to_string
            have f5 := fun n => (HYC.out.drewN n).to_string
            have f6 := fun n => ((HV.out.below HB10.out).drewN n).to_string
            have z3 : IntKind.i64.wrap ((k : Int) + 8) = (k : Int) + 8 := by rw [IntKind.wrap_i64]; omega
            have z4 : ((k + 8 : Nat) : Int) = (k : Int) + 8 := by omega
            have hcat : ((⟨(Wire.be j 4).toArray⟩ : ByteArray) ++ ⟨b.toArray⟩) ++ ⟨b.toArray⟩ = ⟨D.toArray⟩ := by
              rw [← HDE.out]
              apply ByteArray.ext
              simp [ByteArray.data_append]
            have hs4 : (⟨(Wire.be j 4).toArray⟩ : ByteArray).size = 4 := by show (Wire.be j 4).toArray.size = 4; rw [List.size_toArray, Wire.be_length]
            have hsb : (⟨b.toArray⟩ : ByteArray).size = j := by show b.toArray.size = j; rw [List.size_toArray, HM.out]
            have f7 : ¬ (9223372036854775807 < (⟨(Wire.be j 4).toArray⟩ : ByteArray).size + (⟨b.toArray⟩ : ByteArray).size) := by rw [hs4, hsb]; omega
            have f8 : ¬ (9223372036854775807 < (⟨(Wire.be j 4).toArray⟩ : ByteArray).size + (⟨b.toArray⟩ : ByteArray).size + (⟨b.toArray⟩ : ByteArray).size) := by rw [hs4, hsb]; omega
            have f9 : ¬ (9223372036854775807 < ((⟨(Wire.be j 4).toArray⟩ : ByteArray) ++ ⟨b.toArray⟩).size + (⟨b.toArray⟩ : ByteArray).size) := by rw [ByteArray.size_append, hs4, hsb]; omega
            have HSB := Lib.hid hsb
            clear hzb hyb hs4 hsb
            generalize (⟨(Wire.be j 4).toArray⟩ : ByteArray) = S4 at *
            generalize hSB : (⟨b.toArray⟩ : ByteArray) = SB at *
            generalize (⟨D.toArray⟩ : ByteArray) = SD at *
            go_wp2_with fail
            go_quiet (fail)
            clear f1 f2 f3 f4 f5 f6 f7 f8 f9 hcat z1 z2 z3 z4
            obtain ⟨wq, hwq⟩ : ∃ wq, w10.drewN nq = wq := ⟨_, rfl⟩
            have HRq : Hid (IsR wq w3.heap.size br (some b)) := Lib.hid (hwq ▸ HR10.out.drewN nq)
            have HBq : Hid (Below w.heap.size w wq) := Lib.hid (hwq ▸ below_callW HB10.out (below_drewN _ _))
            have HWQ := Lib.hid hwq; clear hwq
            clear HR10 HB10 HZC HYC HY10 HZ
            go_wp2_with fail
            rw [HWQ.out]
            clear HWQ
            refine (rbytes_fit _ _ b j (by have := HM.out; omega) _ HRq.out).mono ?_
            rintro e w11 ⟨v11, rfl, hown11, hr11, -⟩
            rw [List.take_of_length_le (by have := HM.out; omega)] at hown11
            rw [show b.drop j = [] from List.drop_eq_nil_of_le (by have := HM.out; omega)] at hr11
            have HP11 := Lib.hid (BS.of_own hown11)
            obtain ⟨q11, c11, rfl⟩ := own_form hown11
            have HR11 := Lib.hid hr11.1
            have h3q : w.heap.size ≤ w3.heap.size := HB3.out.size
            have HB11 := Lib.hid (HBq.out.trans (hr11.2.1.mono h3q))
            have HV11 := Lib.hid (HV.out.below HB11.out)
            clear hown11 hr11
            go_wp2_with fail
            refine (read_any _ b (by have := HM.out; omega) _ HV11.out).mono ?_
            rintro e w12 ⟨bq, rfl, hr12, hb12⟩
            have HR12 := Lib.hid hr12
            have HC12 := Lib.hid hb12
            clear hr12 hb12
            go_wp2_with fail
            refine (rbytes_fit _ _ b j (by have := HM.out; omega) _ HR12.out).mono ?_
            rintro e w13 ⟨v13, rfl, hown13, hr13, hper13⟩
            rw [List.take_of_length_le (by have := HM.out; omega)] at hown13
            rw [show b.drop j = [] from List.drop_eq_nil_of_le (by have := HM.out; omega)] at hper13 hr13
            have HO13 := Lib.hid hown13
            have HP13 := Lib.hid hper13
            have HC13 := Lib.hid (HC12.out.trans hr13.2.1)
            have h1213 : w12.heap.size ≤ w13.heap.size := hr13.2.1.size
            obtain ⟨q13, c13, rfl⟩ := own_form hown13
            clear hown13 hper13 hr13
            go_wp2_with fail
            go_loopw [18] (fun i wr => ∃ (k : Nat) (l : List UInt8), k ≤ j ∧ i = .int .i64 k ∧ l.length = j ∧ wr.ownsRow w12.heap.size 5 1 (.slice q13 j c13) j (bytesV l) ∧ w13.grownBy wr (Value.slice q13 j c13).ownBlock) (fun i _ => j - (intOf i).toNat)
            case atStart => exact ⟨0, b, Nat.zero_le _, rfl, HM.out, HO13.out, World.grownBy.refl _ _⟩
            case round =>
              obtain ⟨h, l3, hh, rfl, hl, hown, hgr⟩ := hrel
              have HLL := Lib.hid hl; clear hl
              have HOW := Lib.hid hown
              have HGR := Lib.hid hgr; clear hgr
              by_cases hhj : h < j
              · obtain ⟨x, hx⟩ : ∃ x, l3[h]? = some x := ⟨_, List.getElem?_eq_getElem (by have := HLL.out; omega)⟩
                obtain ⟨g, rfl⟩ : ∃ g, q13 = some ⟨g, 0, none⟩ := by
                  rcases hown.2 with ⟨h, h0⟩ | ⟨g, c, cur, h, _⟩
                  · omega
                  · injection h with h; exact ⟨g, h⟩
                have hcell : wr.cell? ⟨g, h, none⟩ = some (.int .u8 (x.toNat : Int)) := by rw [hown.cellAt h (by omega), bytesV_at, hx]; rfl
                have hfrz := hown.frozenAt h
                have hxl := x.toNat_lt
                obtain ⟨y, hy⟩ : ∃ y : UInt8, (y.toNat : Int) = ((x.toNat : Int) + 1) % 256 := ⟨UInt8.ofNat ((x.toNat + 1) % 256), by rw [UInt8.toNat_ofNat']; omega⟩
                have HBU := Lib.hid (fun u hu => own_bump (j := h) HOW.out u y hu)
                have HLS : Hid ((l3.set h y).length = j) := Lib.hid (by rw [List.length_set]; exact HLL.out)
                clear hown hx
                generalize (x.toNat : Int) = xi at *
                go_wp2
                go_roundw
                case rel => exact ⟨h + 1, l3.set h y, by omega, by go_num, HLS.out, (HBU.out _ (by first | exact hy.symm | (rw [hy]; go_num) | omega)).1, HGR.out.trans (HBU.out _ (by first | exact hy.symm | (rw [hy]; go_num) | omega)).2⟩
                case measure => simp [intOf]; omega
              · obtain rfl : h = j := by omega
                have HBX : Hid (Below w12.heap.size w13 wr) := Lib.hid ((Below.refl _ _).grown HGR.out h1213 (fun g h => (HO13.out.lt g h).1))
                have HRQ := Lib.hid (HP13.out _ HBX.out)
                have HBY : Hid (Below w11.heap.size w11 wr) := Lib.hid (HC13.out.trans (HBX.out.mono HC12.out.size))
                have HRR := Lib.hid (HR11.out.below HBY.out)
                have HPP := Lib.hid (HP11.out.below HBY.out)
                have HBW := Lib.hid (HB11.out.trans (HBY.out.mono HB11.out.size))
                have HVW := Lib.hid (HV.out.below HBW.out)
                clear hown hh hhj HOW HGR HLL
                generalize wr = w14 at *
                have f1 := HPP.out.to_string
                have f2 := HVW.out.to_string
                go_wp2_with fail
                clear f1 f2
                refine (rend_any _ _ _ _ HRR.out).mono ?_
                rintro e w15 ⟨rfl, n15, hw15⟩
                have HR15 := Lib.hid (HRQ.out.drewN n15)
                have HB15 := Lib.hid (below_callW HBW.out (below_drewN _ n15))
                rw [← hw15] at HR15 HB15
                clear hw15
                rw [if_pos rfl]
                go_wp2_with fail
                refine (rend_any _ _ _ _ HR15.out).mono ?_
                rintro e w16 ⟨rfl, n16, hw16⟩
                have HB16 := Lib.hid (below_callW HB15.out (below_drewN _ n16))
                rw [← hw16] at HB16
                clear hw16
                rw [if_pos rfl]
                go_wp2_with fail
                refine (known01_any _).mono ?_
                rintro e w17 ⟨rfl, hb17⟩
                have HB17 := Lib.hid (below_callW HB16.out hb17)
                clear hb17
                go_wp2
                go_ret
                exact ⟨rfl, HB17.out⟩

set_option maxRecDepth 100000 in
theorem lifted (os : Os) (started : os.Started) (H : Type) (enc : TypeId × Value → H) :
    ReturnsInHanded {} Try.checked os 4 .any (Rows.wireApartSpec.pre6 enc Try.prog Try.f4 Rows.wireApartRow.domain false) (Rows.wireApartSpec.post enc Try.prog Try.f4 false true false false) := by
  refine returnsInHanded_of_change (C := Try.checked) own started (by kernel_rfl) Try.func4
    (ChangeSpec.witness6 (enc := enc) (C := Try.checked) false ⟨#[], #[.slice none 0 0, .int .u64 0], []⟩ 8 (by kernel_rfl) (by kernel_rfl) (by kernel_rfl) (by kernel_rfl)) ?_
  intro W base args ds gs before hval0 hW hcnd _
  have hval : ∀ (j : Nat) t v, Try.f4.params[j]? = some t → args[j]? = some v → Value.okWide Try.prog W .any base t v := hval0
  have hW' := hW
  obtain ⟨p, q, hA0, hV, rfl, hfz, hnd⟩ := hW
  have hA : DataW.TrodAll enc Try.prog W 0 (fun _ => true) true Try.f4.params.toList args.toList ds p := hA0
  rw [Try.params4] at hA hval
  obtain ⟨v0, vs0, d0, ds0, p0, q0, hargs, rfl, rfl, h0, r0⟩ := trodAll_cons hA
  obtain ⟨v1, vs1, d1, ds1, p1, q1, rfl, rfl, rfl, h1, r1⟩ := trodAll_cons r0
  obtain ⟨rfl, rfl, rfl⟩ := trodAll_nil r1
  obtain rfl : args = #[v0, v1] := by cases args; simp_all
  obtain ⟨b, hb⟩ := open_bytes (hval 0 _ v0 rfl rfl) h0
  obtain ⟨n, rfl, rfl, rfl, wn⟩ := open_int Try.underlying33 (hval 1 33 v1 rfl rfl) h1
  clear hA0 hval0
  refine (walk v0 b n wn W hb).mono fun e W' ⟨he, hg⟩ => ?_
  subst he
  exact ⟨_, rfl, post_law laidOut rfl hW' ⟨rfl, rfl, rfl⟩ (by kernel_rfl) hg Try.underlying4 rfl⟩

theorem proved : Rows.WireApartSaid :=
  OpenClaim.holds_of_wide 4 Try.f4 rfl rfl rfl rfl rfl rfl rfl ⟨rfl, rfl, rfl, rfl, rfl⟩ rfl rfl rfl rfl rfl (by kernel_rfl) Try.func4 (by kernel_rfl)
    (of_decide_eq_true (by kernel_rfl)) (by unfold Func.isWrapper; first | (rw [if_pos (by decide +kernel)]; kernel_rfl) | (rw [if_neg (by decide +kernel)]; exact ⟨rfl, rfl⟩))
    (fun os started H enc _ => lifted os started H enc)
#print axioms proved
end Go.Proofs.Ytfpcpnjegbmdbaa.wireApart

