/- Contracts of the posting reference: at, put, Key, Bytes. Contracts of the posting reference: Key, Bytes, Of; and of posting.Of. Contracts of the posting reference: Key, Bytes. A posting's bytes: they tell it; contracts of Bytes (posting, couponref14) at a posting that may be. -/
import Derived.Test.YtellhmbebimenaaDoorRt45
import Derived.Test.YtellhmbebimenaaDoorRt11
import Derived.Test.YtellhmbebimenaaDoorRt46
import Derived.Deep.RegionHeld3

section
set_option linter.unusedVariables false
set_option linter.unusedSimpArgs false
namespace Go.Proofs.YtellhmbebimenaaDoor
open Go.RowKit

set_option maxRecDepth 4000 in
set_option maxHeartbeats 1000000 in
theorem put14_any (base : Nat) (v : Value) (L : List UInt8) (N : Nat) (hN : N < 18446744073709551616) (s : Nat) (hs : s = 1 ∨ s = 2 ∨ s = 4 ∨ s = 8) (hfit : N < 256 ^ s) (hL : L.length ≤ 1000) (w : World) (hb : base ≤ w.heap.size) (ho : w.ownsRow base 5 1 v L.length (bytesV L)) :
    Calls Tryd.prog 78 #[v, .int .u64 (N : Int), .int .i64 (s : Int)] w fun e w' => ∃ u, e = .returned u ∧ w'.ownsRow base 5 1 u (L ++ Wire.be N s).length (bytesV (L ++ Wire.be N s)) ∧ w.grownBy w' v.ownBlock := by
  have HNU := Lib.hid (rNumber_any N hN (s : Int) w)
  have hp : pNum N (s : Int) = some (Wire.be N s) := by
    unfold pNum
    rw [if_pos ⟨by rcases hs with rfl | rfl | rfl | rfl <;> rfl, by rw [Int.toNat_natCast]; exact hfit⟩, Int.toNat_natCast]
  rw [hp] at HNU
  have HLB := Lib.hid (Wire.be_length N s)
  have HO := Lib.hid ho
  have HLL := Lib.hid hL
  obtain ⟨q, c, rfl⟩ := own_form ho
  clear hp hfit ho hL
  rw [show pGet (some (Wire.be N s)) = Wire.be N s from rfl, show (some (Wire.be N s)).isSome = true from rfl] at HNU
  generalize Wire.be N s = B at *
  generalize hLn : L.length = nl at *
  have HLN := Lib.hid hLn
  clear hLn
  go_enter Tryd.func78, Tryd.ntmps78
  go_wp2_with fail
  refine HNU.out.mono ?_
  rintro e w1 ⟨u, rfl, hown, hb1⟩
  have HOB := Lib.hid (BS.of_own hown)
  have HB := Lib.hid hb1
  have HO1 := Lib.hid (own_below HO.out hb1)
  obtain ⟨q1, c1, rfl⟩ := own_form hown
  clear hown hb1
  go_wp2_with (at_builtin; refine wpList_append_bytes rfl _ _ rfl base _ _ _ rfl HO1.out _ B rfl HOB.out ?c1 ?c2 ?_)
  case c1 => have := HLB.out; have := HLL.out; omega
  case c2 => have := HB.out.size; omega
  intro v2 w2 hown2 hg2 hn2 hat2
  have HG : Hid (w.grownBy w2 (Value.slice q nl c).ownBlock) := Lib.hid ⟨hg2.os.trans HB.out.os, hg2.tape.trans HB.out.tape, hg2.output.trans HB.out.output, Nat.le_trans HB.out.size hg2.size, fun k hk hne => (hg2.block k (Nat.lt_of_lt_of_le hk HB.out.size) hne).trans (HB.out.block k hk)⟩
  have HO2 : Hid (w2.ownsRow base 5 1 v2 (L ++ B).length (bytesV (L ++ B))) := Lib.hid (by rw [List.length_append, bytesV_append, HLN.out]; exact hown2)
  obtain ⟨q2, c2, rfl⟩ := own_form hown2
  clear hown2 hg2 hn2 hat2
  go_wp2
  go_ret
  exact ⟨_, rfl, by rw [List.length_append, HLN.out]; have := HO2.out; rwa [List.length_append, HLN.out] at this, HG.out⟩
end Go.Proofs.YtellhmbebimenaaDoor
end

section
set_option linter.unusedVariables false
set_option linter.unusedSimpArgs false
namespace Go.Proofs.YtellhmbebimenaaDoor
open Go.RowKit

theorem row_put {W W' : World} {base n g : Nat} {v : Value} {xs : List Value} {cs : Array Value} {t : TypeId} {fr : Nat × Nat} (ho : W.ownsRow base 5 1 v n xs) (hg : W.grownBy W' v.ownBlock) (hr : W.heap[g]? = some (.cells cs t fr)) (ht : t ≠ 5) : W'.heap[g]? = some (.cells cs t fr) := by
  refine (hg.block g (block_lt hr) ?_).trans hr
  intro e
  rcases ho.2 with ⟨rfl, _⟩ | ⟨g', cap, cur, rfl, _, hh, _⟩
  · cases e
  · have : g = g' := by injection e
    subst this
    rw [hr] at hh
    injection hh with hh
    injection hh with _ h2 _
    exact ht h2
theorem below_put {w W W' : World} {base n : Nat} {v : Value} {xs : List Value} (hb : Below base w W) (hbase : base ≤ W.heap.size) (ho : W.ownsRow base 5 1 v n xs) (hg : W.grownBy W' v.ownBlock) : Below base w W' :=
  hb.grown hg hbase (fun q hq => (ho.lt q hq).1)

end Go.Proofs.YtellhmbebimenaaDoor
end

section
set_option linter.unusedVariables false
set_option linter.unusedSimpArgs false
namespace Go.Proofs.YtellhmbebimenaaDoor
open Go.RowKit

set_option maxRecDepth 4000 in
set_option maxHeartbeats 1000000 in
theorem rKey14_any (d k a0 a1 a2 a3 a4 a5 : Int) (T S : Nat) (hT : T < 18446744073709551616) (hS : S < 65536) (w : World) :
    Calls Tryd.prog 79 #[.agg #[.int .i64 d, .int .u64 (T : Int), .int .i64 (S : Int), .int .i64 k, .int .i64 a0, .int .i64 a1, .int .i64 a2, .int .i64 a3, .int .i64 a4, .int .i64 a5]] w fun e w' => ∃ u, e = .returned u ∧ w'.ownsRow w.heap.size 5 1 u (Wire.be T 8 ++ Wire.be S 2).length (bytesV (Wire.be T 8 ++ Wire.be S 2)) ∧ Below w.heap.size w w' := by
  have z1 : IntKind.u64.wrap (S : Int) = (S : Int) := by rw [IntKind.wrap_u64]; omega
  have hrw : (w.alloc (.cells #[.int .i64 d, .int .u64 (T : Int), .int .i64 (S : Int), .int .i64 k, .int .i64 a0, .int .i64 a1, .int .i64 a2, .int .i64 a3, .int .i64 a4, .int .i64 a5] 49)).heap[w.heap.size]? = some (.cells #[.int .i64 d, .int .u64 (T : Int), .int .i64 (S : Int), .int .i64 k, .int .i64 a0, .int .i64 a1, .int .i64 a2, .int .i64 a3, .int .i64 a4, .int .i64 a5] 49 (0, 0)) := new_rowW _ _ _ rfl
  have hb := (Below.refl w.heap.size w).alloc (Nat.le_refl _) (.cells #[.int .i64 d, .int .u64 (T : Int), .int .i64 (S : Int), .int .i64 k, .int .i64 a0, .int .i64 a1, .int .i64 a2, .int .i64 a3, .int .i64 a4, .int .i64 a5] 49)
  go_enter Tryd.func79, Tryd.ntmps79
  go_wp2_with fail
  generalize w.alloc (.cells #[.int .i64 d, .int .u64 (T : Int), .int .i64 (S : Int), .int .i64 k, .int .i64 a0, .int .i64 a1, .int .i64 a2, .int .i64 a3, .int .i64 a4, .int .i64 a5] 49) = W0 at *
  have hc0 := fun j => cell_of_row W0 w.heap.size j _ _ _ hrw
  have hb := hb.drew
  go_region_held3 (fun w' => w'.cell? ⟨w.heap.size, 1, none⟩ = some (.int .u64 (T : Int)) ∧ w'.cell? ⟨w.heap.size, 2, none⟩ = some (.int .i64 (S : Int))) (first | exact ⟨cell_of_row _ _ 1 _ _ _ hrw, cell_of_row _ _ 2 _ _ _ hrw⟩ | go_keep) (first
    | (go_at_call 78; refine (put14_any w.heap.size _ _ S (by omega) 2 (by decide) (by omega) hl1 _ hb.size ho1).mono ?_; rintro e w2 ⟨u2, rfl, ho2, hg2⟩; have hrw := row_put ho1 hg2 hrw (by decide); have hb := below_put hb hb.size ho1 hg2; obtain ⟨q2, c2, rfl⟩ := own_form ho2)
    | (go_at_call 78; refine (put14_any w.heap.size (.slice none 0 0) [] T hT 8 (by decide) hT (by decide) _ hb.size (World.ownsRow_nil _ _ _ _)).mono ?_; rintro e w1 ⟨u1, rfl, ho1, hg1⟩; have hrw := row_put (World.ownsRow_nil W0.drew w.heap.size 5 1) hg1 hrw (by decide); have hb := below_put hb hb.size (World.ownsRow_nil W0.drew w.heap.size 5 1) hg1; have hl1 : ([] ++ Wire.be T 8).length ≤ 1000 := (by rw [List.nil_append, Wire.be_length]; decide); obtain ⟨q1, c1, rfl⟩ := own_form ho1))
  have HF := Lib.hid hb
  have HO := Lib.hid ho2
  clear hb ho1 ho2 hg1 hg2 hrw
  go_wp2
  go_ret
  exact ⟨_, rfl, HO.out, HF.out⟩

set_option maxRecDepth 4000 in
set_option maxHeartbeats 1000000 in
theorem rBytes14_any (a0 a1 a2 a3 a4 a5 : Int) (D T S K : Nat) (hD : D < 4294967296) (hT : T < 18446744073709551616) (hS : S < 65536) (hK : K < 256) (w : World) :
    Calls Tryd.prog 31 #[.agg #[.int .i64 (D : Int), .int .u64 (T : Int), .int .i64 (S : Int), .int .i64 (K : Int), .int .i64 a0, .int .i64 a1, .int .i64 a2, .int .i64 a3, .int .i64 a4, .int .i64 a5]] w fun e w' => ∃ u, e = .returned u ∧ w'.ownsRow w.heap.size 5 1 u ((((Wire.be T 8 ++ Wire.be S 2) ++ Wire.be D 4) ++ Wire.be K 1) ++ encA [a0, a1, a2, a3, a4, a5]).length (bytesV ((((Wire.be T 8 ++ Wire.be S 2) ++ Wire.be D 4) ++ Wire.be K 1) ++ encA [a0, a1, a2, a3, a4, a5])) ∧ Below w.heap.size w w' := by
  have z1 : IntKind.u64.wrap (D : Int) = (D : Int) := by rw [IntKind.wrap_u64]; omega
  have z2 : IntKind.u64.wrap (K : Int) = (K : Int) := by rw [IntKind.wrap_u64]; omega
  have hrw : (w.alloc (.cells #[.int .i64 (D : Int), .int .u64 (T : Int), .int .i64 (S : Int), .int .i64 (K : Int), .int .i64 a0, .int .i64 a1, .int .i64 a2, .int .i64 a3, .int .i64 a4, .int .i64 a5] 49)).heap[w.heap.size]? = some (.cells #[.int .i64 (D : Int), .int .u64 (T : Int), .int .i64 (S : Int), .int .i64 (K : Int), .int .i64 a0, .int .i64 a1, .int .i64 a2, .int .i64 a3, .int .i64 a4, .int .i64 a5] 49 (0, 0)) := new_rowW _ _ _ rfl
  have hb := (Below.refl w.heap.size w).alloc (Nat.le_refl _) (.cells #[.int .i64 (D : Int), .int .u64 (T : Int), .int .i64 (S : Int), .int .i64 (K : Int), .int .i64 a0, .int .i64 a1, .int .i64 a2, .int .i64 a3, .int .i64 a4, .int .i64 a5] 49)
  have HKEY := Lib.hid (fun W => rKey14_any (D : Int) (K : Int) a0 a1 a2 a3 a4 a5 T S hT hS W)
  have hq1 : (Wire.be T 8 ++ Wire.be S 2).length ≤ 1000 := by rw [List.length_append, Wire.be_length, Wire.be_length]; decide
  have hq2 : ((Wire.be T 8 ++ Wire.be S 2) ++ Wire.be D 4).length ≤ 1000 := by rw [List.length_append, List.length_append, Wire.be_length, Wire.be_length, Wire.be_length]; decide
  have hq3 : (((Wire.be T 8 ++ Wire.be S 2) ++ Wire.be D 4) ++ Wire.be K 1).length = 15 := by rw [List.length_append, List.length_append, List.length_append, Wire.be_length, Wire.be_length, Wire.be_length, Wire.be_length]
  have HQ3 := Lib.hid hq3
  clear hq3
  generalize Wire.be T 8 ++ Wire.be S 2 = L1 at *
  generalize hL2 : L1 ++ Wire.be D 4 = L2 at *
  generalize hL3 : L2 ++ Wire.be K 1 = L3 at *
  go_enter Tryd.func31, Tryd.ntmps31
  go_wp2_with fail
  generalize w.alloc (.cells #[.int .i64 (D : Int), .int .u64 (T : Int), .int .i64 (S : Int), .int .i64 (K : Int), .int .i64 a0, .int .i64 a1, .int .i64 a2, .int .i64 a3, .int .i64 a4, .int .i64 a5] 49) = W0 at *
  have hc0 := fun j => cell_of_row W0 w.heap.size j _ _ _ hrw
  have hb := hb.drew
  go_region_held3 (fun w' => w'.cell? ⟨w.heap.size, 0, none⟩ = some (.int .i64 (D : Int)) ∧ w'.cell? ⟨w.heap.size, 1, none⟩ = some (.int .u64 (T : Int)) ∧ w'.cell? ⟨w.heap.size, 2, none⟩ = some (.int .i64 (S : Int)) ∧ w'.cell? ⟨w.heap.size, 3, none⟩ = some (.int .i64 (K : Int)) ∧ w'.cell? ⟨w.heap.size, 4, none⟩ = some (.int .i64 a0) ∧ w'.cell? ⟨w.heap.size, 5, none⟩ = some (.int .i64 a1) ∧ w'.cell? ⟨w.heap.size, 6, none⟩ = some (.int .i64 a2) ∧ w'.cell? ⟨w.heap.size, 7, none⟩ = some (.int .i64 a3) ∧ w'.cell? ⟨w.heap.size, 8, none⟩ = some (.int .i64 a4) ∧ w'.cell? ⟨w.heap.size, 9, none⟩ = some (.int .i64 a5)) (first | exact ⟨cell_of_row _ _ 0 _ _ _ hrw, cell_of_row _ _ 1 _ _ _ hrw, cell_of_row _ _ 2 _ _ _ hrw, cell_of_row _ _ 3 _ _ _ hrw, cell_of_row _ _ 4 _ _ _ hrw, cell_of_row _ _ 5 _ _ _ hrw, cell_of_row _ _ 6 _ _ _ hrw, cell_of_row _ _ 7 _ _ _ hrw, cell_of_row _ _ 8 _ _ _ hrw, cell_of_row _ _ 9 _ _ _ hrw⟩ | go_keep) (first
    | (go_at_call 78; refine (put14_any w.heap.size _ _ K (by omega) 1 (by decide) hK hq2 _ hb.size ho2).mono ?_; rintro e w3 ⟨u3, rfl, ho3, hg3⟩; rw [hL3] at ho3; have hrw := row_put ho2 hg3 hrw (by decide); have hb := below_put hb hb.size ho2 hg3; obtain ⟨q3, c3, rfl⟩ := own_form ho3)
    | (go_at_call 78; refine (put14_any w.heap.size _ _ D (by omega) 4 (by decide) hD hq1 _ hb.size ho1).mono ?_; rintro e w2 ⟨u2, rfl, ho2, hg2⟩; rw [hL2] at ho2; have hrw := row_put ho1 hg2 hrw (by decide); have hb := below_put hb hb.size ho1 hg2; obtain ⟨q2, c2, rfl⟩ := own_form ho2)
    | (go_at_call 79; refine (HKEY.out _).mono ?_; rintro e w1 ⟨u1, rfl, ho1', hbk⟩; have ho1 := own_mono ho1' hb.size; have hrw : w1.heap[w.heap.size]? = _ := (hbk.block w.heap.size (by exact block_lt hrw)).trans hrw; have hb := hb.trans (hbk.mono hb.size); obtain ⟨q1, c1, rfl⟩ := own_form ho1))
  have HF := Lib.hid hb
  have HO := Lib.hid ho3
  have hcF := fun j => cell_of_row w3 w.heap.size j _ _ _ hrw
  clear hb ho1 ho2 ho3 hg2 hg3 hrw hc0
  have HAM := Lib.hid (fun W => rAmounts_any (D : Int) (T : Int) (S : Int) (K : Int) a0 a1 a2 a3 a4 a5 W)
  go_wp2_with fail
  refine (HAM.out _).mono ?_
  rintro e w4 ⟨ba, hba, rfl, hra, hb4⟩
  have HO4 := Lib.hid (own_below HO.out hb4)
  have HF4 := Lib.hid (HF.out.trans (hb4.mono HF.out.size))
  have HRA := Lib.hid hra
  clear hra hb4 hcF
  go_wp2_with fail
  obtain ⟨am, hamd⟩ : ∃ am, am = [a0, a1, a2, a3, a4, a5] := ⟨_, rfl⟩
  have HAD := Lib.hid hamd
  rw [← hamd] at HRA
  have hal : am.length = 6 := by rw [hamd]; rfl
  clear hamd
  have HAL := Lib.hid hal
  go_loopw [3, 5] (fun u i wr => ∃ j : Nat, j ≤ 6 ∧ i = .int .i64 j ∧ wr.ownsRow w.heap.size 5 1 u (L3 ++ encA (am.take j)).length (bytesV (L3 ++ encA (am.take j))) ∧ Below w.heap.size w wr ∧ wr.heap[ba]? = some (.cells (Post.amRow am) 2 (0, 0))) (fun _ i _ => 6 - (intOf i).toNat)
  case atStart => exact ⟨0, by omega, rfl, by rw [show L3 ++ encA (am.take 0) = L3 from by simp [encA]]; exact HO4.out, HF4.out, HRA.out⟩
  case round =>
    obtain ⟨j, hj, rfl, hown, hbw, hrow⟩ := hrel
    have HOW := Lib.hid hown
    have HBW := Lib.hid hbw
    have HROW := Lib.hid hrow
    obtain ⟨qj, cj, rfl⟩ := own_form hown
    clear hown hbw
    by_cases hlt : j < 6
    · have hcell : wr.cell? ⟨ba, j, none⟩ = some (.int .i64 (am.getD j 0)) := (cell_of_row wr ba j _ _ _ hrow).trans (Post.amRow_at (by omega))
      have htk : L3 ++ encA (am.take (j + 1)) = (L3 ++ encA (am.take j)) ++ Wire.be (u64 (am.getD j 0)) 8 := by
        have hx : am[j]? = some (am.getD j 0) := by rw [List.getD_eq_getElem?_getD, List.getElem?_eq_getElem (by omega)]; rfl
        rw [List.take_add_one, hx]
        unfold encA
        simp
      have hu := u64_eq (am.getD j 0)
      have hul := u64_lt (am.getD j 0)
      have hl8 : (L3 ++ encA (am.take j)).length ≤ 1000 := by
        have : (encA (am.take j)).length ≤ 48 := by
          have h2 : ∀ l : List Int, (encA l).length = 8 * l.length := by
            intro l
            induction l with
            | nil => rfl
            | cons a l ih => unfold encA at ih ⊢; rw [List.flatMap_cons, List.length_append, Wire.be_length, ih, List.length_cons]; omega
          rw [h2, List.length_take]; omega
        rw [List.length_append, HQ3.out]; omega
      generalize L3 ++ encA (am.take j) = LJ at *
      generalize am.getD j 0 = z at *
      generalize u64 z = Z at *
      have HTK := Lib.hid htk
      generalize hnn : LJ.length = nn at *
      have HNN := Lib.hid hnn
      clear htk hrow hnn
      have HP5 := Lib.hid (put14_any w.heap.size (.slice qj nn cj) LJ Z hul 8 (by decide) hul (by rw [HNN.out]; exact hl8) wr HBW.out.size (by rw [HNN.out]; exact HOW.out))
      generalize hn5 : (LJ ++ Wire.be Z 8).length = n5 at *
      have HN5 := Lib.hid hn5
      clear hn5
      go_wp2_with fail
      refine HP5.out.mono ?_
      rintro e w5 ⟨u5, rfl, ho5, hg5⟩
      have HO5 := Lib.hid ho5
      have HB5 := Lib.hid (below_put HBW.out HBW.out.size HOW.out hg5)
      have HR5 := Lib.hid (row_put HOW.out hg5 HROW.out (by decide))
      obtain ⟨q5, c5, rfl⟩ := own_form ho5
      clear ho5 hg5
      go_wp2
      go_roundw
      case rel => exact ⟨j + 1, by omega, by go_num, by rw [HTK.out, HN5.out]; exact HO5.out, HB5.out, HR5.out⟩
      case measure => simp [intOf]; omega
    · obtain rfl : j = 6 := by omega
      have hall : am.take 6 = am := List.take_of_length_le (by omega)
      have HFN : Hid (wr.ownsRow w.heap.size 5 1 (.slice qj (L3 ++ encA (am.take 6)).length cj) (L3 ++ encA [a0, a1, a2, a3, a4, a5]).length (bytesV (L3 ++ encA [a0, a1, a2, a3, a4, a5]))) := Lib.hid (by
        have h := HOW.out
        rw [← HAD.out]
        rw [hall] at h ⊢
        exact h)
      go_wp2
      go_ret
      exact ⟨_, rfl, HFN.out, HBW.out⟩
end Go.Proofs.YtellhmbebimenaaDoor
end

section
set_option linter.unusedVariables false
set_option linter.unusedSimpArgs false
namespace Go.Proofs.YtellhmbebimenaaDoor
open Go.RowKit

theorem vAt_at (b x z : List UInt8) (n k o : Nat) (hk : k = 1 ∨ k = 2 ∨ k = 4 ∨ k = 8) (hn : n < 256 ^ k) (hb : b = x ++ (Wire.be n k ++ z)) (ho : x.length = o) : vAt b o k = n := by
  subst hb ho
  have hl : x.length + k ≤ (x ++ (Wire.be n k ++ z)).length := by simp only [List.length_append, Wire.be_length]; omega
  have h := be_vAt hk hl
  rw [List.drop_left, List.take_left' (Wire.be_length n k)] at h
  have e1 := congrArg Wire.ofBe h
  rwa [Wire.ofBe_be, Wire.ofBe_be, Nat.mod_eq_of_lt hn, Nat.mod_eq_of_lt (vAt_lt _ _ _)] at e1
theorem encP_length (p : Pst) : (encP p).length = 63 := by
  unfold encP encH encA Pst.am
  simp only [List.flatMap_cons, List.flatMap_nil, List.append_nil, List.length_append, Wire.be_length]
theorem in_i64 {n : Int} (h : Lit.wf (.int .i64 n)) : -9223372036854775808 ≤ n ∧ n ≤ 9223372036854775807 := by
  simpa [Lit.wf, IntKind.min, IntKind.max, IntKind.signed, IntKind.bits] using h
theorem in_u64 {n : Int} (h : Lit.wf (.int .u64 n)) : 0 ≤ n ∧ n ≤ 18446744073709551615 := by
  simpa [Lit.wf, IntKind.min, IntKind.max, IntKind.signed, IntKind.bits] using h
theorem wrap_u64 {n : Int} (h : Lit.wf (.int .i64 n)) : wrap64 ((u64 n : Nat) : Int) = n := by
  have := in_i64 h
  unfold wrap64 u64; omega
theorem u64_small {n : Int} (h0 : 0 ≤ n) (h1 : n ≤ 18446744073709551615) : ((u64 n : Nat) : Int) = n := by unfold u64; omega
theorem may_in {p : Pst} (hm : p.may = true) : (1 ≤ p.k ∧ p.k ≤ 5) ∧ (0 ≤ p.d ∧ p.d ≤ 1000000) ∧ (1 ≤ p.s ∧ p.s ≤ 200) := by
  unfold Pst.may Post.may at hm
  simp only [Bool.and_eq_true, decide_eq_true_eq] at hm
  obtain ⟨⟨⟨⟨⟨⟨⟨h1, h2⟩, h3⟩, h4⟩, h5⟩, h6⟩, h7⟩, h8⟩ := hm
  exact ⟨⟨h1, h2⟩, ⟨h4, h5⟩, ⟨h6, h7⟩⟩
theorem pOf_encP {p : Pst} (hw : p.wf) (hm : p.may = true) : pOf (encP p) = p := by
  obtain ⟨hk, hd, hs⟩ := may_in hm
  obtain ⟨w0, w1, w2, w3, w4, w5, w6, w7, w8, w9⟩ := hw
  have ht := in_u64 w1
  have e : encP p = Wire.be (u64 p.t) 8 ++ (Wire.be (u64 p.s) 2 ++ (Wire.be (u64 p.d) 4 ++ (Wire.be (u64 p.k) 1 ++ (Wire.be (u64 p.a0) 8 ++ (Wire.be (u64 p.a1) 8 ++ (Wire.be (u64 p.a2) 8 ++ (Wire.be (u64 p.a3) 8 ++ (Wire.be (u64 p.a4) 8 ++ Wire.be (u64 p.a5) 8)))))))) := by
    unfold encP encH encA Pst.am
    simp only [List.flatMap_cons, List.flatMap_nil, List.append_nil, List.append_assoc]
  have l := fun n => u64_lt n
  have v1 : vAt (encP p) 0 8 = u64 p.t := vAt_at _ [] _ _ 8 0 (by decide) (Nat.lt_of_lt_of_le (l _) (by decide)) e rfl
  have v2 : vAt (encP p) 8 2 = u64 p.s := vAt_at _ (Wire.be (u64 p.t) 8) _ _ 2 8 (by decide) (by have := u64_small (n := p.s) (by omega) (by omega); show u64 p.s < 65536; omega) e (by simp only [List.length_append, Wire.be_length])
  have v3 : vAt (encP p) 10 4 = u64 p.d := vAt_at _ (Wire.be (u64 p.t) 8 ++ Wire.be (u64 p.s) 2) _ _ 4 10 (by decide) (by have := u64_small (n := p.d) (by omega) (by omega); show u64 p.d < 4294967296; omega) (by rw [e]; simp only [List.append_assoc]; rfl) (by simp only [List.length_append, Wire.be_length])
  have v4 : vAt (encP p) 14 1 = u64 p.k := vAt_at _ (Wire.be (u64 p.t) 8 ++ Wire.be (u64 p.s) 2 ++ Wire.be (u64 p.d) 4) _ _ 1 14 (by decide) (by have := u64_small (n := p.k) (by omega) (by omega); show u64 p.k < 256; omega) (by rw [e]; simp only [List.append_assoc]; rfl) (by simp only [List.length_append, Wire.be_length])
  have v5 : vAt (encP p) 15 8 = u64 p.a0 := vAt_at _ (Wire.be (u64 p.t) 8 ++ Wire.be (u64 p.s) 2 ++ Wire.be (u64 p.d) 4 ++ Wire.be (u64 p.k) 1) _ _ 8 15 (by decide) (Nat.lt_of_lt_of_le (l _) (by decide)) (by rw [e]; simp only [List.append_assoc]; rfl) (by simp only [List.length_append, Wire.be_length])
  have v6 : vAt (encP p) 23 8 = u64 p.a1 := vAt_at _ (Wire.be (u64 p.t) 8 ++ Wire.be (u64 p.s) 2 ++ Wire.be (u64 p.d) 4 ++ Wire.be (u64 p.k) 1 ++ Wire.be (u64 p.a0) 8) _ _ 8 23 (by decide) (Nat.lt_of_lt_of_le (l _) (by decide)) (by rw [e]; simp only [List.append_assoc]; rfl) (by simp only [List.length_append, Wire.be_length])
  have v7 : vAt (encP p) 31 8 = u64 p.a2 := vAt_at _ (Wire.be (u64 p.t) 8 ++ Wire.be (u64 p.s) 2 ++ Wire.be (u64 p.d) 4 ++ Wire.be (u64 p.k) 1 ++ Wire.be (u64 p.a0) 8 ++ Wire.be (u64 p.a1) 8) _ _ 8 31 (by decide) (Nat.lt_of_lt_of_le (l _) (by decide)) (by rw [e]; simp only [List.append_assoc]; rfl) (by simp only [List.length_append, Wire.be_length])
  have v8 : vAt (encP p) 39 8 = u64 p.a3 := vAt_at _ (Wire.be (u64 p.t) 8 ++ Wire.be (u64 p.s) 2 ++ Wire.be (u64 p.d) 4 ++ Wire.be (u64 p.k) 1 ++ Wire.be (u64 p.a0) 8 ++ Wire.be (u64 p.a1) 8 ++ Wire.be (u64 p.a2) 8) _ _ 8 39 (by decide) (Nat.lt_of_lt_of_le (l _) (by decide)) (by rw [e]; simp only [List.append_assoc]; rfl) (by simp only [List.length_append, Wire.be_length])
  have v9 : vAt (encP p) 47 8 = u64 p.a4 := vAt_at _ (Wire.be (u64 p.t) 8 ++ Wire.be (u64 p.s) 2 ++ Wire.be (u64 p.d) 4 ++ Wire.be (u64 p.k) 1 ++ Wire.be (u64 p.a0) 8 ++ Wire.be (u64 p.a1) 8 ++ Wire.be (u64 p.a2) 8 ++ Wire.be (u64 p.a3) 8) _ _ 8 47 (by decide) (Nat.lt_of_lt_of_le (l _) (by decide)) (by rw [e]; simp only [List.append_assoc]; rfl) (by simp only [List.length_append, Wire.be_length])
  have v10 : vAt (encP p) 55 8 = u64 p.a5 := vAt_at _ (Wire.be (u64 p.t) 8 ++ Wire.be (u64 p.s) 2 ++ Wire.be (u64 p.d) 4 ++ Wire.be (u64 p.k) 1 ++ Wire.be (u64 p.a0) 8 ++ Wire.be (u64 p.a1) 8 ++ Wire.be (u64 p.a2) 8 ++ Wire.be (u64 p.a3) 8 ++ Wire.be (u64 p.a4) 8) [] _ 8 55 (by decide) (Nat.lt_of_lt_of_le (l _) (by decide)) (by rw [e]; simp only [List.append_assoc, List.append_nil]) (by simp only [List.length_append, Wire.be_length])
  unfold pOf
  rw [v1, v2, v3, v4, v5, v6, v7, v8, v9, v10, u64_small hd.1 (by omega), u64_small ht.1 ht.2, u64_small (n := p.s) (by omega) (by omega), u64_small (n := p.k) (by omega) (by omega), wrap_u64 w4, wrap_u64 w5, wrap_u64 w6, wrap_u64 w7, wrap_u64 w8, wrap_u64 w9]
theorem pBytesP (x : Pst) (hw : x.wf) (hm : x.may = true) (w : World) :
    Calls Tryd.prog 22 #[.agg #[.int .i64 x.d, .int .u64 x.t, .int .i64 x.s, .int .i64 x.k, .int .i64 x.a0, .int .i64 x.a1, .int .i64 x.a2, .int .i64 x.a3, .int .i64 x.a4, .int .i64 x.a5]] w fun e w' => ∃ u, e = .returned (.tuple #[u, .int .i64 0]) ∧ w'.ownsRow w.heap.size 5 1 u (encP x).length (bytesV (encP x)) ∧ Below w.heap.size w w' := by
  obtain ⟨hk, hd, hs⟩ := may_in hm
  have ht := in_u64 hw.2.1
  obtain ⟨d, t, s, k, a0, a1, a2, a3, a4, a5⟩ := x
  simp only at hk hd hs ht ⊢
  obtain ⟨D, rfl⟩ := Int.eq_ofNat_of_zero_le hd.1
  obtain ⟨T, rfl⟩ := Int.eq_ofNat_of_zero_le ht.1
  obtain ⟨S, rfl⟩ := Int.eq_ofNat_of_zero_le (show 0 ≤ s by omega)
  obtain ⟨K, rfl⟩ := Int.eq_ofNat_of_zero_le (show 0 ≤ k by omega)
  have h := pBytes_any T S D K a0 a1 a2 a3 a4 a5 (by omega) (by omega) (by omega) (by omega) w hm
  have e : encP ⟨(D : Int), (T : Int), (S : Int), (K : Int), a0, a1, a2, a3, a4, a5⟩ = encQ T S D K ++ encA [a0, a1, a2, a3, a4, a5] := by
    unfold encP encH encQ Pst.am
    simp only
    rw [u64_nat T (by omega), u64_nat S (by omega), u64_nat D (by omega), u64_nat K (by omega)]
  rw [e]
  exact h
theorem rBytesP (x : Pst) (hw : x.wf) (hm : x.may = true) (w : World) :
    Calls Tryd.prog 31 #[.agg #[.int .i64 x.d, .int .u64 x.t, .int .i64 x.s, .int .i64 x.k, .int .i64 x.a0, .int .i64 x.a1, .int .i64 x.a2, .int .i64 x.a3, .int .i64 x.a4, .int .i64 x.a5]] w fun e w' => ∃ u, e = .returned u ∧ w'.ownsRow w.heap.size 5 1 u (encP x).length (bytesV (encP x)) ∧ Below w.heap.size w w' := by
  obtain ⟨hk, hd, hs⟩ := may_in hm
  have ht := in_u64 hw.2.1
  obtain ⟨d, t, s, k, a0, a1, a2, a3, a4, a5⟩ := x
  simp only at hk hd hs ht ⊢
  obtain ⟨D, rfl⟩ := Int.eq_ofNat_of_zero_le hd.1
  obtain ⟨T, rfl⟩ := Int.eq_ofNat_of_zero_le ht.1
  obtain ⟨S, rfl⟩ := Int.eq_ofNat_of_zero_le (show 0 ≤ s by omega)
  obtain ⟨K, rfl⟩ := Int.eq_ofNat_of_zero_le (show 0 ≤ k by omega)
  have h := rBytes14_any a0 a1 a2 a3 a4 a5 D T S K (by omega) (by omega) (by omega) (by omega) w
  have e : encP ⟨(D : Int), (T : Int), (S : Int), (K : Int), a0, a1, a2, a3, a4, a5⟩ = (((Wire.be T 8 ++ Wire.be S 2) ++ Wire.be D 4) ++ Wire.be K 1) ++ encA [a0, a1, a2, a3, a4, a5] := by
    unfold encP encH Pst.am
    simp only
    rw [u64_nat T (by omega), u64_nat S (by omega), u64_nat D (by omega), u64_nat K (by omega)]
  rw [e]
  exact h
end Go.Proofs.YtellhmbebimenaaDoor
end
