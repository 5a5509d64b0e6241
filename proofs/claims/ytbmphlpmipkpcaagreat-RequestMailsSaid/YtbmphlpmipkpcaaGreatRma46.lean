/- Contracts: posting.Bytes, Key. -/
import Derived.Test.YtbmphlpmipkpcaaGreatRma45
import Derived.Test.YtbmphlpmipkpcaaGreatRma25

set_option linter.unusedVariables false
set_option linter.unusedSimpArgs false
namespace Go.Proofs.YtbmphlpmipkpcaaGreat
open Go.RowKit

/-- the bytes of a posting that may be -/
def encQ (T S D K : Nat) : List UInt8 := (((Wire.be T 8 ++ Wire.be S 2) ++ Wire.be D 4) ++ Wire.be K 1)

set_option maxRecDepth 4000 in
set_option maxHeartbeats 2000000 in
theorem pBytes_any (T S D K : Nat) (a0 a1 a2 a3 a4 a5 : Int) (hT : T < 18446744073709551616) (hS : S < 65536) (hD : D < 4294967296) (hK : K < 256) (w : World) (hmay : Post.may D T S K [a0, a1, a2, a3, a4, a5] = true) :
    Calls Tryz.prog 89 #[.agg #[.int .i64 (D : Int), .int .u64 (T : Int), .int .i64 (S : Int), .int .i64 (K : Int), .int .i64 a0, .int .i64 a1, .int .i64 a2, .int .i64 a3, .int .i64 a4, .int .i64 a5]] w fun e w' =>
      ∃ u, e = .returned (.tuple #[u, .int .i64 0]) ∧ w'.ownsRow w.heap.size 5 1 u (encQ T S D K ++ encA [a0, a1, a2, a3, a4, a5]).length (bytesV (encQ T S D K ++ encA [a0, a1, a2, a3, a4, a5])) ∧ Below w.heap.size w w' := by
  have HMY := Lib.hid (fun W => may_any D T S K a0 a1 a2 a3 a4 a5 (by omega) (by omega) W)
  rw [hmay] at HMY
  have z1 : IntKind.u64.wrap (D : Int) = (D : Int) := by rw [IntKind.wrap_u64]; omega
  have z2 : IntKind.u64.wrap (K : Int) = (K : Int) := by rw [IntKind.wrap_u64]; omega
  have z3 : IntKind.u64.wrap (S : Int) = (S : Int) := by rw [IntKind.wrap_u64]; omega
  clear hmay
  go_enter Tryz.func89, Tryz.ntmps89
  go_wp2_with fail
  have hrp : (w.alloc (.cells #[.int .i64 (D : Int), .int .u64 (T : Int), .int .i64 (S : Int), .int .i64 (K : Int), .int .i64 a0, .int .i64 a1, .int .i64 a2, .int .i64 a3, .int .i64 a4, .int .i64 a5] 30)).heap[w.heap.size]? = some (.cells #[.int .i64 (D : Int), .int .u64 (T : Int), .int .i64 (S : Int), .int .i64 (K : Int), .int .i64 a0, .int .i64 a1, .int .i64 a2, .int .i64 a3, .int .i64 a4, .int .i64 a5] 30 (0, 0)) := new_rowW _ _ _ rfl
  have HBP := Lib.hid ((Below.refl w.heap.size w).alloc (Nat.le_refl _) (.cells #[.int .i64 (D : Int), .int .u64 (T : Int), .int .i64 (S : Int), .int .i64 (K : Int), .int .i64 a0, .int .i64 a1, .int .i64 a2, .int .i64 a3, .int .i64 a4, .int .i64 a5] 30))
  generalize w.alloc (.cells #[.int .i64 (D : Int), .int .u64 (T : Int), .int .i64 (S : Int), .int .i64 (K : Int), .int .i64 a0, .int .i64 a1, .int .i64 a2, .int .i64 a3, .int .i64 a4, .int .i64 a5] 30) = W0 at *
  have hlp := block_lt hrp
  refine (HMY.out _).mono ?_
  rintro e w1 ⟨rfl, hbm⟩
  have hrw : w1.heap[w.heap.size]? = some (.cells #[.int .i64 (D : Int), .int .u64 (T : Int), .int .i64 (S : Int), .int .i64 (K : Int), .int .i64 a0, .int .i64 a1, .int .i64 a2, .int .i64 a3, .int .i64 a4, .int .i64 a5] 30 (0, 0)) := (hbm.block w.heap.size hlp).trans hrp
  have HB1 := Lib.hid (HBP.out.trans (hbm.mono HBP.out.size))
  have hle : w.heap.size < w1.drew.heap.size := by have := block_lt hrw; simpa using this
  clear hbm hrp
  have hcp := fun j => cell_of_row w1 w.heap.size j _ _ _ hrw
  go_wp2_with fail
  have hi1 := new_writer w1.drew
  have hb1 := HB1.out.drew.alloc (Nat.le_of_lt hle) (.cells #[.slice none 0 0, .int .i64 0, .bool false] 138)
  go_region_held3 (fun w' => w'.cell? ⟨w.heap.size, 0, none⟩ = some (.int .i64 (D : Int)) ∧ w'.cell? ⟨w.heap.size, 1, none⟩ = some (.int .u64 (T : Int)) ∧ w'.cell? ⟨w.heap.size, 2, none⟩ = some (.int .i64 (S : Int)) ∧ w'.cell? ⟨w.heap.size, 3, none⟩ = some (.int .i64 (K : Int))) (first | exact ⟨cell_of_row _ _ 0 _ _ _ hrw, cell_of_row _ _ 1 _ _ _ hrw, cell_of_row _ _ 2 _ _ _ hrw, cell_of_row _ _ 3 _ _ _ hrw⟩ | exact ⟨cell_of_row _ _ 0 _ _ _ (row_allocW hrw _), cell_of_row _ _ 1 _ _ _ (row_allocW hrw _), cell_of_row _ _ 2 _ _ _ (row_allocW hrw _), cell_of_row _ _ 3 _ _ _ (row_allocW hrw _)⟩ | go_keep) (first
    | (go_at_call 77; refine (wnumber_okE hi1 (by omega) _ _ (by decide) (by first | exact hT | exact hS | exact hD | exact hK)).mono ?_; rintro e w2 ⟨rfl, hw2⟩; have hrw2 := hw2.2.1.block w.heap.size hle; have hrw : w2.heap[w.heap.size]? = some (.cells #[.int .i64 (D : Int), .int .u64 (T : Int), .int .i64 (S : Int), .int .i64 (K : Int), .int .i64 a0, .int .i64 a1, .int .i64 a2, .int .i64 a3, .int .i64 a4, .int .i64 a5] 30 (0, 0)) := hrw2.trans (by first | exact hrw | exact row_allocW hrw _); have hi1 := hw2.1; have hb1 := hb1.trans (hw2.2.1.mono (Nat.le_of_lt hle)); clear hw2 hrw2))
  have HI : Hid (IsW w2 w1.heap.size w1.heap.size 36 (some (encQ T S D K))) := Lib.hid hi1
  have HB := Lib.hid hb1
  have HRW := Lib.hid hrw
  have hcp2 := fun j => cell_of_row w2 w.heap.size j _ _ _ hrw
  have hlw : w.heap.size < w1.heap.size := hle
  clear hi1 hb1 hrw hcp
  go_wp2_with fail
  obtain ⟨am, hamd⟩ : ∃ am, am = [a0, a1, a2, a3, a4, a5] := ⟨_, rfl⟩
  have HAD := Lib.hid hamd
  have hal : am.length = 6 := by rw [hamd]; rfl
  have HOFP : Hid (∀ W : World, Calls Tryz.prog 151 #[.agg #[.int .i64 (D : Int), .int .u64 (T : Int), .int .i64 (S : Int), .int .i64 (K : Int), .int .i64 a0, .int .i64 a1, .int .i64 a2, .int .i64 a3, .int .i64 a4, .int .i64 a5]] W fun e w' => e = .returned (.agg (Post.amRow am)) ∧ Below W.heap.size W w') := Lib.hid (by rw [hamd]; exact fun W => of_post_any D T S K a0 a1 a2 a3 a4 a5 W)
  clear hamd
  refine (HOFP.out _).mono ?_
  rintro e w3 ⟨rfl, hb3⟩
  have HI3 := Lib.hid (HI.out.below hb3)
  have HB3 := Lib.hid (HB.out.trans (hb3.mono HB.out.size))
  clear hb3 hcp2
  go_wp2_with fail
  have hlq : (encQ T S D K).length = 15 := by unfold encQ; rw [List.length_append, List.length_append, List.length_append, Wire.be_length, Wire.be_length, Wire.be_length, Wire.be_length]
  have HLQ := Lib.hid hlq
  clear hlq
  generalize hQ : encQ T S D K = Q at *
  have HQ := Lib.hid hQ
  clear hQ
  go_loopw [28] (fun i wr => ∃ j : Nat, j ≤ 6 ∧ i = .int .i64 j ∧ IsW wr w1.heap.size w1.heap.size (36 + 9 * j) (some (Q ++ encA (am.take j))) ∧ Below w.heap.size w wr) (fun i _ => 6 - (intOf i).toNat)
  case atStart => exact ⟨0, by omega, rfl, by rw [show Q ++ encA (am.take 0) = Q from by simp [encA]]; exact HI3.out, HB3.out⟩
  case round =>
    obtain ⟨j, hj, rfl, hisw, hbw⟩ := hrel
    have HIJ := Lib.hid hisw
    have HBJ := Lib.hid hbw
    clear hisw hbw
    by_cases hlt : j < 6
    · have hix := fun W => run_am_at am hal j hlt W
      have htk : Q ++ encA (am.take (j + 1)) = (Q ++ encA (am.take j)) ++ Wire.be (u64 (am.getD j 0)) 8 := by
        have hx : am[j]? = some (am.getD j 0) := by rw [List.getD_eq_getElem?_getD, List.getElem?_eq_getElem (by omega)]; rfl
        rw [List.take_add_one, hx]
        unfold encA
        simp
      have HTK := Lib.hid htk
      clear htk
      generalize am.getD j 0 = z at *
      go_wp2_with fail
      refine (wint_okE HIJ.out (by omega) z).mono ?_
      rintro e w5 ⟨rfl, hw5⟩
      rw [← HTK.out] at hw5
      have HI5 := Lib.hid (hw5.1.mono (show 36 + 9 * j + 9 ≤ 36 + 9 * (j + 1) by omega))
      have HB5 := Lib.hid (HBJ.out.trans (hw5.2.1.mono (by omega)))
      clear hw5
      go_wp2
      go_roundw
      case rel => exact ⟨j + 1, by omega, by go_num, HI5.out, HB5.out⟩
      case measure => simp [intOf]; omega
    · obtain rfl : j = 6 := by omega
      have hall : am.take 6 = am := List.take_of_length_le (by omega)
      rw [hall, HAD.out] at HIJ
      go_wp2_with fail
      refine (wend_some _ _ _ _ (by omega) _ HIJ.out).mono ?_
      rintro e w6 ⟨u, rfl, hown, hb6⟩
      have HO6 := Lib.hid (own_mono hown HBJ.out.size)
      have HB6 := Lib.hid (HBJ.out.trans (hb6.mono HBJ.out.size))
      obtain ⟨q6, c6, rfl⟩ := own_form hown
      clear hown hb6
      generalize hnl : (Q ++ encA [a0, a1, a2, a3, a4, a5]).length = nl at *
      have HNL := Lib.hid hnl
      clear hnl
      go_wp2
      go_ret2
      exact ⟨_, rfl, by rw [HQ.out, HNL.out]; exact HO6.out, HB6.out⟩
theorem BS.recap {w : World} {p : Option Addr} {n cap c : Nat} {l : List UInt8} (h : BS w (.slice p n cap) l) (h1 : n ≤ c) (h2 : c ≤ cap) : BS w (.slice p n c) l := by
  obtain ⟨p', cap', e, g1, g2, g3⟩ := h
  injection e with e1 e2 e3
  subst e1; subst e3; subst e2
  exact ⟨_, c, rfl, h1, by omega, g3⟩
theorem run_head3 (q : Option Addr) (n cap k : Nat) (h : k ≤ cap) (W : World) : (Instr.slice 47 (.slice q n cap) none (some (.int .i64 (k : Int))) (some (.int .i64 (k : Int)))).run Tryz.prog W = .ok (.slice q k k) W := by
  have ht : Tryz.prog.underlying 47 = some (.slice (Tryz.prog.elem 47)) := by kernel_rfl
  have hz : ∀ W : World, (sizeOf (Tryz.prog.elem 47)).run Tryz.prog W = .ok 1 W := fun W => by
    rw [show Tryz.prog.elem 47 = 5 from by kernel_rfl]; simp [go_sem]
  rw [run_slice_hm W _ _ _ _ ht _ _ _ _ (by omega) (by omega) (by omega), hz]
  cases q <;> simp [sliced, Result.andThen, Addr.add]

end Go.Proofs.YtbmphlpmipkpcaaGreat
