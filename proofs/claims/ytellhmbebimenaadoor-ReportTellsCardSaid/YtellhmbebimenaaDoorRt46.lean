/- Plain facts for PostingReads: a posting's 63 bytes, and what is read of any bytes. Contracts: posting.Bytes, Key. -/
import Derived.Test.YtellhmbebimenaaDoorRt9
import Derived.Test.YtellhmbebimenaaDoorRt45
import Derived.Test.YtellhmbebimenaaDoorRt12
import Derived.Test.YtellhmbebimenaaDoorRt40

section
set_option linter.unusedVariables false
set_option linter.unusedSimpArgs false
namespace Go.Proofs.YtellhmbebimenaaDoor
open Go.RowKit

theorem beVal_ofBe (l : List UInt8) : beVal l = Wire.ofBe l := by
  unfold beVal Wire.ofBe
  congr 1
  funext n b
  unfold Wire.bstep
  omega
/-- what is left of bytes behind a place -/
def stAt (b : List UInt8) (o : Nat) : Option (List UInt8) := if o ≤ b.length then some (b.drop o) else none
def vAt (b : List UInt8) (o k : Nat) : Nat := rNumV (stAt b o) (k : Int)
theorem stAt_zero (b : List UInt8) : stAt b 0 = some b := by unfold stAt; rw [if_pos (Nat.zero_le _)]; rfl
theorem stAt_num (b : List UInt8) (o k : Nat) (hk : k = 1 ∨ k = 2 ∨ k = 4 ∨ k = 8) : rNumS (stAt b o) (k : Int) = stAt b (o + k) := by
  have hs : rSize (k : Int) = true := by rcases hk with rfl | rfl | rfl | rfl <;> rfl
  unfold rNumS
  rw [if_pos hs]
  unfold stAt
  by_cases h : o ≤ b.length
  · rw [if_pos h]
    by_cases h2 : o + k ≤ b.length
    · rw [if_pos h2, (rTake_fit (l := b.drop o) (n := k) (by rw [List.length_drop]; omega)).2, List.drop_drop]
    · rw [if_neg h2]
      exact (rTake_bad (fun l e => by injection e with e; subst e; rw [List.length_drop]; omega)).2
  · rw [if_neg h, if_neg (by omega)]; rfl
theorem stAt_end (b : List UInt8) : stAt b 63 = some [] ↔ b.length = 63 := by
  unfold stAt
  by_cases h : 63 ≤ b.length
  · rw [if_pos h]
    simp only [Option.some.injEq, List.drop_eq_nil_iff]; omega
  · rw [if_neg h]
    constructor
    · intro h; cases h
    · intro h2; omega
theorem vAt_lt (b : List UInt8) (o k : Nat) : vAt b o k < 256 ^ k := rNumV_lt _ k
theorem vAt_num {b : List UInt8} {o : Nat} (k : Nat) (h : o ≤ b.length) : numV (b.drop o) (k : Int) = vAt b o k := by
  unfold vAt stAt
  rw [if_pos h, (rNum_t _ _).2]
theorem be_vAt {b : List UInt8} {o k : Nat} (hk : k = 1 ∨ k = 2 ∨ k = 4 ∨ k = 8) (h : o + k ≤ b.length) : Wire.be (vAt b o k) k = (b.drop o).take k := by
  have hs : rSize (k : Int) = true := by rcases hk with rfl | rfl | rfl | rfl <;> rfl
  have hl : ((b.drop o).take k).length = k := by rw [List.length_take, List.length_drop]; omega
  unfold vAt rNumV stAt
  rw [if_pos hs, if_pos (by omega)]
  unfold rBy
  rw [(rTake_fit (l := b.drop o) (n := k) (by rw [List.length_drop]; omega)).1]
  show Wire.be (beVal ((b.drop o).take k)) k = _
  have := Wire.be_ofBe ((b.drop o).take k)
  rwa [hl, ← beVal_ofBe] at this
theorem cut_step (b : List UInt8) (o k : Nat) : (b.drop o).take k ++ b.drop (o + k) = b.drop o := by
  rw [← List.drop_drop, List.take_append_drop]
def pOf (b : List UInt8) : Pst := ⟨vAt b 10 4, vAt b 0 8, vAt b 8 2, vAt b 14 1, wrap64 (vAt b 15 8), wrap64 (vAt b 23 8), wrap64 (vAt b 31 8), wrap64 (vAt b 39 8), wrap64 (vAt b 47 8), wrap64 (vAt b 55 8)⟩
def zeroP : Pst := ⟨0, 0, 0, 0, 0, 0, 0, 0, 0, 0⟩
def encH (p : Pst) : List UInt8 := ((Wire.be (u64 p.t) 8 ++ Wire.be (u64 p.s) 2) ++ Wire.be (u64 p.d) 4) ++ Wire.be (u64 p.k) 1
def encA (am : List Int) : List UInt8 := am.flatMap fun a => Wire.be (u64 a) 8
def encP (p : Pst) : List UInt8 := encH p ++ encA p.am
theorem u64_wrap (N : Nat) (h : N < 18446744073709551616) : u64 (wrap64 (N : Int)) = N := by unfold u64 wrap64; omega
theorem u64_of (N : Nat) (h : N < 18446744073709551616) : u64 (N : Int) = N := by unfold u64; omega
theorem encP_of {b : List UInt8} (h : b.length = 63) : encP (pOf b) = b := by
  have l := fun o k => vAt_lt b o k
  unfold encP encH encA Pst.am pOf
  simp only [List.flatMap_cons, List.flatMap_nil, List.append_nil]
  rw [u64_of _ (Nat.lt_of_lt_of_le (l 0 8) (by decide)), u64_of _ (Nat.lt_of_lt_of_le (l 8 2) (by decide)), u64_of _ (Nat.lt_of_lt_of_le (l 10 4) (by decide)), u64_of _ (Nat.lt_of_lt_of_le (l 14 1) (by decide))]
  rw [u64_wrap _ (Nat.lt_of_lt_of_le (l 15 8) (by decide)), u64_wrap _ (Nat.lt_of_lt_of_le (l 23 8) (by decide)), u64_wrap _ (Nat.lt_of_lt_of_le (l 31 8) (by decide)), u64_wrap _ (Nat.lt_of_lt_of_le (l 39 8) (by decide)), u64_wrap _ (Nat.lt_of_lt_of_le (l 47 8) (by decide)), u64_wrap _ (Nat.lt_of_lt_of_le (l 55 8) (by decide))]
  rw [be_vAt (by decide) (by omega), be_vAt (by decide) (by omega), be_vAt (by decide) (by omega), be_vAt (by decide) (by omega), be_vAt (by decide) (by omega), be_vAt (by decide) (by omega), be_vAt (by decide) (by omega), be_vAt (by decide) (by omega), be_vAt (by decide) (by omega), be_vAt (by decide) (by omega)]
  have e : b.drop 63 = [] := List.drop_of_length_le (by omega)
  have s9 := cut_step b 55 8
  rw [show 55 + 8 = 63 from rfl, e, List.append_nil] at s9
  simp only [List.append_assoc]
  rw [s9, cut_step b 47 8, cut_step b 39 8, cut_step b 31 8, cut_step b 23 8, cut_step b 15 8, cut_step b 14 1, cut_step b 10 4, cut_step b 8 2, cut_step b 0 8]
  rfl
end Go.Proofs.YtellhmbebimenaaDoor
end

section
set_option linter.unusedVariables false
set_option linter.unusedSimpArgs false
namespace Go.Proofs.YtellhmbebimenaaDoor
open Go.RowKit

/-- the bytes of a posting that may be -/
def encQ (T S D K : Nat) : List UInt8 := (((Wire.be T 8 ++ Wire.be S 2) ++ Wire.be D 4) ++ Wire.be K 1)

set_option maxRecDepth 4000 in
set_option maxHeartbeats 2000000 in
theorem pBytes_any (T S D K : Nat) (a0 a1 a2 a3 a4 a5 : Int) (hT : T < 18446744073709551616) (hS : S < 65536) (hD : D < 4294967296) (hK : K < 256) (w : World) (hmay : Post.may D T S K [a0, a1, a2, a3, a4, a5] = true) :
    Calls Tryd.prog 22 #[.agg #[.int .i64 (D : Int), .int .u64 (T : Int), .int .i64 (S : Int), .int .i64 (K : Int), .int .i64 a0, .int .i64 a1, .int .i64 a2, .int .i64 a3, .int .i64 a4, .int .i64 a5]] w fun e w' =>
      ∃ u, e = .returned (.tuple #[u, .int .i64 0]) ∧ w'.ownsRow w.heap.size 5 1 u (encQ T S D K ++ encA [a0, a1, a2, a3, a4, a5]).length (bytesV (encQ T S D K ++ encA [a0, a1, a2, a3, a4, a5])) ∧ Below w.heap.size w w' := by
  have HMY := Lib.hid (fun W => may_any D T S K a0 a1 a2 a3 a4 a5 (by omega) (by omega) W)
  rw [hmay] at HMY
  have z1 : IntKind.u64.wrap (D : Int) = (D : Int) := by rw [IntKind.wrap_u64]; omega
  have z2 : IntKind.u64.wrap (K : Int) = (K : Int) := by rw [IntKind.wrap_u64]; omega
  have z3 : IntKind.u64.wrap (S : Int) = (S : Int) := by rw [IntKind.wrap_u64]; omega
  clear hmay
  go_enter Tryd.func22, Tryd.ntmps22
  go_wp2_with fail
  have hrp : (w.alloc (.cells #[.int .i64 (D : Int), .int .u64 (T : Int), .int .i64 (S : Int), .int .i64 (K : Int), .int .i64 a0, .int .i64 a1, .int .i64 a2, .int .i64 a3, .int .i64 a4, .int .i64 a5] 49)).heap[w.heap.size]? = some (.cells #[.int .i64 (D : Int), .int .u64 (T : Int), .int .i64 (S : Int), .int .i64 (K : Int), .int .i64 a0, .int .i64 a1, .int .i64 a2, .int .i64 a3, .int .i64 a4, .int .i64 a5] 49 (0, 0)) := new_rowW _ _ _ rfl
  have HBP := Lib.hid ((Below.refl w.heap.size w).alloc (Nat.le_refl _) (.cells #[.int .i64 (D : Int), .int .u64 (T : Int), .int .i64 (S : Int), .int .i64 (K : Int), .int .i64 a0, .int .i64 a1, .int .i64 a2, .int .i64 a3, .int .i64 a4, .int .i64 a5] 49))
  generalize w.alloc (.cells #[.int .i64 (D : Int), .int .u64 (T : Int), .int .i64 (S : Int), .int .i64 (K : Int), .int .i64 a0, .int .i64 a1, .int .i64 a2, .int .i64 a3, .int .i64 a4, .int .i64 a5] 49) = W0 at *
  have hlp := block_lt hrp
  refine (HMY.out _).mono ?_
  rintro e w1 ⟨rfl, hbm⟩
  have hrw : w1.heap[w.heap.size]? = some (.cells #[.int .i64 (D : Int), .int .u64 (T : Int), .int .i64 (S : Int), .int .i64 (K : Int), .int .i64 a0, .int .i64 a1, .int .i64 a2, .int .i64 a3, .int .i64 a4, .int .i64 a5] 49 (0, 0)) := (hbm.block w.heap.size hlp).trans hrp
  have HB1 := Lib.hid (HBP.out.trans (hbm.mono HBP.out.size))
  have hle : w.heap.size < w1.drew.heap.size := by have := block_lt hrw; simpa using this
  clear hbm hrp
  have hcp := fun j => cell_of_row w1 w.heap.size j _ _ _ hrw
  go_wp2_with fail
  have hi1 := new_writer w1.drew
  have hb1 := HB1.out.drew.alloc (Nat.le_of_lt hle) (.cells #[.slice none 0 0, .int .i64 0, .bool false] 76)
  go_region_held3 (fun w' => w'.cell? ⟨w.heap.size, 0, none⟩ = some (.int .i64 (D : Int)) ∧ w'.cell? ⟨w.heap.size, 1, none⟩ = some (.int .u64 (T : Int)) ∧ w'.cell? ⟨w.heap.size, 2, none⟩ = some (.int .i64 (S : Int)) ∧ w'.cell? ⟨w.heap.size, 3, none⟩ = some (.int .i64 (K : Int))) (first | exact ⟨cell_of_row _ _ 0 _ _ _ hrw, cell_of_row _ _ 1 _ _ _ hrw, cell_of_row _ _ 2 _ _ _ hrw, cell_of_row _ _ 3 _ _ _ hrw⟩ | exact ⟨cell_of_row _ _ 0 _ _ _ (row_allocW hrw _), cell_of_row _ _ 1 _ _ _ (row_allocW hrw _), cell_of_row _ _ 2 _ _ _ (row_allocW hrw _), cell_of_row _ _ 3 _ _ _ (row_allocW hrw _)⟩ | go_keep) (first
    | (go_at_call 43; refine (wnumber_okE hi1 (by omega) _ _ (by decide) (by first | exact hT | exact hS | exact hD | exact hK)).mono ?_; rintro e w2 ⟨rfl, hw2⟩; have hrw2 := hw2.2.1.block w.heap.size hle; have hrw : w2.heap[w.heap.size]? = some (.cells #[.int .i64 (D : Int), .int .u64 (T : Int), .int .i64 (S : Int), .int .i64 (K : Int), .int .i64 a0, .int .i64 a1, .int .i64 a2, .int .i64 a3, .int .i64 a4, .int .i64 a5] 49 (0, 0)) := hrw2.trans (by first | exact hrw | exact row_allocW hrw _); have hi1 := hw2.1; have hb1 := hb1.trans (hw2.2.1.mono (Nat.le_of_lt hle)); clear hw2 hrw2))
  have HI : Hid (IsW w2 w1.heap.size w1.heap.size 36 (some (encQ T S D K))) := Lib.hid hi1
  have HB := Lib.hid hb1
  have HRW := Lib.hid hrw
  have hcp2 := fun j => cell_of_row w2 w.heap.size j _ _ _ hrw
  have hlw : w.heap.size < w1.heap.size := hle
  clear hi1 hb1 hrw hcp
  go_wp2_with fail
  obtain ⟨am, hamd⟩ : ∃ am, am = [a0, a1, a2, a3, a4, a5] := ⟨_, rfl⟩
  have HAD := Lib.hid hamd
  have hal : am.length = 6 := by rw [hamd]; rfl
  have HOFP : Hid (∀ W : World, Calls Tryd.prog 63 #[.agg #[.int .i64 (D : Int), .int .u64 (T : Int), .int .i64 (S : Int), .int .i64 (K : Int), .int .i64 a0, .int .i64 a1, .int .i64 a2, .int .i64 a3, .int .i64 a4, .int .i64 a5]] W fun e w' => e = .returned (.agg (Post.amRow am)) ∧ Below W.heap.size W w') := Lib.hid (by rw [hamd]; exact fun W => of_post_any D T S K a0 a1 a2 a3 a4 a5 W)
  clear hamd
  refine (HOFP.out _).mono ?_
  rintro e w3 ⟨rfl, hb3⟩
  have HI3 := Lib.hid (HI.out.below hb3)
  have HB3 := Lib.hid (HB.out.trans (hb3.mono HB.out.size))
  clear hb3 hcp2
  go_wp2_with fail
  have hlq : (encQ T S D K).length = 15 := by unfold encQ; rw [List.length_append, List.length_append, List.length_append, Wire.be_length, Wire.be_length, Wire.be_length, Wire.be_length]
  have HLQ := Lib.hid hlq
  clear hlq
  generalize hQ : encQ T S D K = Q at *
  have HQ := Lib.hid hQ
  clear hQ
  go_loopw [28] (fun i wr => ∃ j : Nat, j ≤ 6 ∧ i = .int .i64 j ∧ IsW wr w1.heap.size w1.heap.size (36 + 9 * j) (some (Q ++ encA (am.take j))) ∧ Below w.heap.size w wr) (fun i _ => 6 - (intOf i).toNat)
  case atStart => exact ⟨0, by omega, rfl, by rw [show Q ++ encA (am.take 0) = Q from by simp [encA]]; exact HI3.out, HB3.out⟩
  case round =>
    obtain ⟨j, hj, rfl, hisw, hbw⟩ := hrel
    have HIJ := Lib.hid hisw
    have HBJ := Lib.hid hbw
    clear hisw hbw
    by_cases hlt : j < 6
    · have hix := fun W => run_am_at am hal j hlt W
      have htk : Q ++ encA (am.take (j + 1)) = (Q ++ encA (am.take j)) ++ Wire.be (u64 (am.getD j 0)) 8 := by
        have hx : am[j]? = some (am.getD j 0) := by rw [List.getD_eq_getElem?_getD, List.getElem?_eq_getElem (by omega)]; rfl
        rw [List.take_add_one, hx]
        unfold encA
        simp
      have HTK := Lib.hid htk
      clear htk
      generalize am.getD j 0 = z at *
      go_wp2_with fail
      refine (wint_okE HIJ.out (by omega) z).mono ?_
      rintro e w5 ⟨rfl, hw5⟩
      rw [← HTK.out] at hw5
      have HI5 := Lib.hid (hw5.1.mono (show 36 + 9 * j + 9 ≤ 36 + 9 * (j + 1) by omega))
      have HB5 := Lib.hid (HBJ.out.trans (hw5.2.1.mono (by omega)))
      clear hw5
      go_wp2
      go_roundw
      case rel => exact ⟨j + 1, by omega, by go_num, HI5.out, HB5.out⟩
      case measure => simp [intOf]; omega
    · obtain rfl : j = 6 := by omega
      have hall : am.take 6 = am := List.take_of_length_le (by omega)
      rw [hall, HAD.out] at HIJ
      go_wp2_with fail
      refine (wend_some _ _ _ _ (by omega) _ HIJ.out).mono ?_
      rintro e w6 ⟨u, rfl, hown, hb6⟩
      have HO6 := Lib.hid (own_mono hown HBJ.out.size)
      have HB6 := Lib.hid (HBJ.out.trans (hb6.mono HBJ.out.size))
      obtain ⟨q6, c6, rfl⟩ := own_form hown
      clear hown hb6
      generalize hnl : (Q ++ encA [a0, a1, a2, a3, a4, a5]).length = nl at *
      have HNL := Lib.hid hnl
      clear hnl
      go_wp2
      go_ret2
      exact ⟨_, rfl, by rw [HQ.out, HNL.out]; exact HO6.out, HB6.out⟩
theorem BS.recap {w : World} {p : Option Addr} {n cap c : Nat} {l : List UInt8} (h : BS w (.slice p n cap) l) (h1 : n ≤ c) (h2 : c ≤ cap) : BS w (.slice p n c) l := by
  obtain ⟨p', cap', e, g1, g2, g3⟩ := h
  injection e with e1 e2 e3
  subst e1; subst e3; subst e2
  exact ⟨_, c, rfl, h1, by omega, g3⟩
theorem run_head3 (q : Option Addr) (n cap k : Nat) (h : k ≤ cap) (W : World) : (Instr.slice 38 (.slice q n cap) none (some (.int .i64 (k : Int))) (some (.int .i64 (k : Int)))).run Tryd.prog W = .ok (.slice q k k) W := by
  have ht : Tryd.prog.underlying 38 = some (.slice (Tryd.prog.elem 38)) := by kernel_rfl
  have hz : ∀ W : World, (sizeOf (Tryd.prog.elem 38)).run Tryd.prog W = .ok 1 W := fun W => by
    rw [show Tryd.prog.elem 38 = 5 from by kernel_rfl]; simp [go_sem]
  rw [run_slice_hm W _ _ _ _ ht _ _ _ _ (by omega) (by omega) (by omega), hz]
  cases q <;> simp [sliced, Result.andThen, Addr.add]

set_option maxRecDepth 4000 in
set_option maxHeartbeats 1000000 in
theorem pKey_any (T S D K : Nat) (a0 a1 a2 a3 a4 a5 : Int) (hT : T < 18446744073709551616) (hS : S < 65536) (hD : D < 4294967296) (hK : K < 256) (w : World) (hmay : Post.may D T S K [a0, a1, a2, a3, a4, a5] = true) :
    Calls Tryd.prog 23 #[.agg #[.int .i64 (D : Int), .int .u64 (T : Int), .int .i64 (S : Int), .int .i64 (K : Int), .int .i64 a0, .int .i64 a1, .int .i64 a2, .int .i64 a3, .int .i64 a4, .int .i64 a5]] w fun e w' =>
      ∃ u, e = .returned (.tuple #[u, .int .i64 0]) ∧ BS w' u (Wire.be T 8 ++ Wire.be S 2) ∧ Below w.heap.size w w' := by
  have HBY := Lib.hid (fun W => pBytes_any T S D K a0 a1 a2 a3 a4 a5 hT hS hD hK W hmay)
  have hlen : 10 ≤ (encQ T S D K ++ encA [a0, a1, a2, a3, a4, a5]).length := by
    unfold encQ
    simp only [List.length_append, Wire.be_length]; omega
  have htk : (encQ T S D K ++ encA [a0, a1, a2, a3, a4, a5]).take 10 = Wire.be T 8 ++ Wire.be S 2 := by
    unfold encQ
    rw [List.append_assoc, List.append_assoc, List.take_append_of_le_length (by rw [List.length_append, Wire.be_length, Wire.be_length]; omega), List.take_of_length_le (by rw [List.length_append, Wire.be_length, Wire.be_length]; omega)]
  have HTK := Lib.hid htk
  have HB0 := Lib.hid (fun o => (Below.refl w.heap.size w).alloc (Nat.le_refl _) o)
  clear htk hmay
  generalize encQ T S D K ++ encA [a0, a1, a2, a3, a4, a5] = L at *
  generalize hn : L.length = n at *
  have HN := Lib.hid hn
  clear hn
  go_enter Tryd.func23, Tryd.ntmps23
  go_wp2_with fail
  refine (HBY.out _).mono ?_
  rintro e w1 ⟨u, rfl, hown, hb1⟩
  obtain ⟨q, c, rfl⟩ := own_form hown
  have hbs := BS.of_own hown
  have hcap := hbs.bounds'
  have HF := Lib.hid ((hbs.head (k := 10) (by rw [HN.out]; exact hlen)).recap (Nat.le_refl _) (by omega))
  rw [HTK.out] at HF
  have f1 := run_head3 q n c 10 (by omega)
  have g1 : (10 : Int) ≤ (c : Int) := by omega
  have hbw := hb1
  clear hown hbs hcap
  go_wp2
  go_ret2
  exact ⟨_, rfl, HF.out, (HB0.out _).trans (hbw.mono (by simp))⟩
end Go.Proofs.YtellhmbebimenaaDoor
end
