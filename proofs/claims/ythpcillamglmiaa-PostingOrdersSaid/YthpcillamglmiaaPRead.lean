/- Contracts of the posting reference: at, put, Key, Bytes. -/
import Derived.Test.YthpcillamglmiaaRefC
set_option linter.unusedVariables false
set_option linter.unusedSimpArgs false
namespace Go.Proofs.Ythpcillamglmiaa
open Go.RowKit

set_option maxRecDepth 4000 in
set_option maxHeartbeats 1000000 in
theorem at14_any (v : Value) (b : List UInt8) (fr : Nat) (hfr : fr ≤ b.length) (s : Int) (w : World) (hv : BS w v b) :
    Calls Try.prog 43 #[v, .int .i64 (fr : Int), .int .i64 s] w fun e w' => e = .returned (.int .u64 (numV (b.drop fr) s : Int)) ∧ ∃ nd, w' = w.drewN nd := by
  have HV := Lib.hid hv
  obtain ⟨p, cap, rfl, g1, g2, -⟩ := hv
  have HTN := Lib.hid (rTakeNumber_any _ (b.drop fr) s w (HV.out.tail hfr))
  have HVT := Lib.hid (HV.out.tail hfr)
  have f2 := run_tail p b.length cap fr hfr g1
  generalize numV (b.drop fr) s = V at *
  generalize tailAt p cap fr = q at *
  generalize b.length = m at *
  unfold maxLen at g2
  go_enter Try.func43, Try.ntmps43
  go_wp2_with fail
  refine HTN.out.mono ?_
  rintro e w1 ⟨y, rfl, hy, nd, rfl⟩
  obtain ⟨py, cy, rfl, -, -, -⟩ := hy w HVT.out
  clear hy
  go_wp2
  go_ret
  exact ⟨rfl, nd, rfl⟩

set_option maxRecDepth 4000 in
set_option maxHeartbeats 1000000 in
theorem put14_any (base : Nat) (v : Value) (L : List UInt8) (N : Nat) (hN : N < 18446744073709551616) (s : Nat) (hs : s = 1 ∨ s = 2 ∨ s = 4 ∨ s = 8) (hfit : N < 256 ^ s) (hL : L.length ≤ 1000) (w : World) (hb : base ≤ w.heap.size) (ho : w.ownsRow base 5 1 v L.length (bytesV L)) :
    Calls Try.prog 44 #[v, .int .u64 (N : Int), .int .i64 (s : Int)] w fun e w' => ∃ u, e = .returned u ∧ w'.ownsRow base 5 1 u (L ++ Wire.be N s).length (bytesV (L ++ Wire.be N s)) ∧ w.grownBy w' v.ownBlock := by
  have HNU := Lib.hid (rNumber_any N hN (s : Int) w)
  have hp : pNum N (s : Int) = some (Wire.be N s) := by
    unfold pNum
    rw [if_pos ⟨by rcases hs with rfl | rfl | rfl | rfl <;> rfl, by rw [Int.toNat_natCast]; exact hfit⟩, Int.toNat_natCast]
  rw [hp] at HNU
  have HLB := Lib.hid (Wire.be_length N s)
  have HO := Lib.hid ho
  have HLL := Lib.hid hL
  obtain ⟨q, c, rfl⟩ := own_form ho
  clear hp hfit ho hL
  rw [show pGet (some (Wire.be N s)) = Wire.be N s from rfl, show (some (Wire.be N s)).isSome = true from rfl] at HNU
  generalize Wire.be N s = B at *
  generalize hLn : L.length = nl at *
  have HLN := Lib.hid hLn
  clear hLn
  go_enter Try.func44, Try.ntmps44
  go_wp2_with fail
  refine HNU.out.mono ?_
  rintro e w1 ⟨u, rfl, hown, hb1⟩
  have HOB := Lib.hid (BS.of_own hown)
  have HB := Lib.hid hb1
  have HO1 := Lib.hid (own_below HO.out hb1)
  obtain ⟨q1, c1, rfl⟩ := own_form hown
  clear hown hb1
  go_wp2_with (at_builtin; refine wpList_append_bytes rfl _ _ rfl base _ _ _ rfl HO1.out _ B rfl HOB.out ?c1 ?c2 ?_)
  case c1 => have := HLB.out; have := HLL.out; omega
  case c2 => have := HB.out.size; omega
  intro v2 w2 hown2 hg2 hn2 hat2
  have HG : Hid (w.grownBy w2 (Value.slice q nl c).ownBlock) := Lib.hid ⟨hg2.os.trans HB.out.os, hg2.tape.trans HB.out.tape, hg2.output.trans HB.out.output, Nat.le_trans HB.out.size hg2.size, fun k hk hne => (hg2.block k (Nat.lt_of_lt_of_le hk HB.out.size) hne).trans (HB.out.block k hk)⟩
  have HO2 : Hid (w2.ownsRow base 5 1 v2 (L ++ B).length (bytesV (L ++ B))) := Lib.hid (by rw [List.length_append, bytesV_append, HLN.out]; exact hown2)
  obtain ⟨q2, c2, rfl⟩ := own_form hown2
  clear hown2 hg2 hn2 hat2
  go_wp2
  go_ret
  exact ⟨_, rfl, by rw [List.length_append, HLN.out]; have := HO2.out; rwa [List.length_append, HLN.out] at this, HG.out⟩
end Go.Proofs.Ythpcillamglmiaa
