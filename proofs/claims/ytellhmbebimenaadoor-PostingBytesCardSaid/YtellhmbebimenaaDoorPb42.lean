/- Contracts of the posting reference: at, put, Key, Bytes. Contracts of the posting reference: Key, Bytes, Of; and of posting.Of. -/
import Derived.Test.YtellhmbebimenaaDoorPb39
import Derived.Test.YtellhmbebimenaaDoorPb14
import Derived.Test.YtellhmbebimenaaDoorPb24
import Derived.Test.YtellhmbebimenaaDoorPb40
import Derived.Deep.RegionHeld3

section
set_option linter.unusedVariables false
set_option linter.unusedSimpArgs false
namespace Go.Proofs.YtellhmbebimenaaDoor
open Go.RowKit

set_option maxRecDepth 4000 in
set_option maxHeartbeats 1000000 in
theorem put14_any (base : Nat) (v : Value) (L : List UInt8) (N : Nat) (hN : N < 18446744073709551616) (s : Nat) (hs : s = 1 ∨ s = 2 ∨ s = 4 ∨ s = 8) (hfit : N < 256 ^ s) (hL : L.length ≤ 1000) (w : World) (hb : base ≤ w.heap.size) (ho : w.ownsRow base 5 1 v L.length (bytesV L)) :
    Calls Tryd.prog 78 #[v, .int .u64 (N : Int), .int .i64 (s : Int)] w fun e w' => ∃ u, e = .returned u ∧ w'.ownsRow base 5 1 u (L ++ Wire.be N s).length (bytesV (L ++ Wire.be N s)) ∧ w.grownBy w' v.ownBlock := by
  have HNU := Lib.hid (rNumber_any N hN (s : Int) w)
  have hp : pNum N (s : Int) = some (Wire.be N s) := by
    unfold pNum
    rw [if_pos ⟨by rcases hs with rfl | rfl | rfl | rfl <;> rfl, by rw [Int.toNat_natCast]; exact hfit⟩, Int.toNat_natCast]
  rw [hp] at HNU
  have HLB := Lib.hid (Wire.be_length N s)
  have HO := Lib.hid ho
  have HLL := Lib.hid hL
  obtain ⟨q, c, rfl⟩ := own_form ho
  clear hp hfit ho hL
  rw [show pGet (some (Wire.be N s)) = Wire.be N s from rfl, show (some (Wire.be N s)).isSome = true from rfl] at HNU
  generalize Wire.be N s = B at *
  generalize hLn : L.length = nl at *
  have HLN := Lib.hid hLn
  clear hLn
  go_enter Tryd.func78, Tryd.ntmps78
  go_wp2_with fail
  refine HNU.out.mono ?_
  rintro e w1 ⟨u, rfl, hown, hb1⟩
  have HOB := Lib.hid (BS.of_own hown)
  have HB := Lib.hid hb1
  have HO1 := Lib.hid (own_below HO.out hb1)
  obtain ⟨q1, c1, rfl⟩ := own_form hown
  clear hown hb1
  go_wp2_with (at_builtin; refine wpList_append_bytes rfl _ _ rfl base _ _ _ rfl HO1.out _ B rfl HOB.out ?c1 ?c2 ?_)
  case c1 => have := HLB.out; have := HLL.out; omega
  case c2 => have := HB.out.size; omega
  intro v2 w2 hown2 hg2 hn2 hat2
  have HG : Hid (w.grownBy w2 (Value.slice q nl c).ownBlock) := Lib.hid ⟨hg2.os.trans HB.out.os, hg2.tape.trans HB.out.tape, hg2.output.trans HB.out.output, Nat.le_trans HB.out.size hg2.size, fun k hk hne => (hg2.block k (Nat.lt_of_lt_of_le hk HB.out.size) hne).trans (HB.out.block k hk)⟩
  have HO2 : Hid (w2.ownsRow base 5 1 v2 (L ++ B).length (bytesV (L ++ B))) := Lib.hid (by rw [List.length_append, bytesV_append, HLN.out]; exact hown2)
  obtain ⟨q2, c2, rfl⟩ := own_form hown2
  clear hown2 hg2 hn2 hat2
  go_wp2
  go_ret
  exact ⟨_, rfl, by rw [List.length_append, HLN.out]; have := HO2.out; rwa [List.length_append, HLN.out] at this, HG.out⟩
end Go.Proofs.YtellhmbebimenaaDoor
end

section
set_option linter.unusedVariables false
set_option linter.unusedSimpArgs false
namespace Go.Proofs.YtellhmbebimenaaDoor
open Go.RowKit

theorem row_put {W W' : World} {base n g : Nat} {v : Value} {xs : List Value} {cs : Array Value} {t : TypeId} {fr : Nat × Nat} (ho : W.ownsRow base 5 1 v n xs) (hg : W.grownBy W' v.ownBlock) (hr : W.heap[g]? = some (.cells cs t fr)) (ht : t ≠ 5) : W'.heap[g]? = some (.cells cs t fr) := by
  refine (hg.block g (block_lt hr) ?_).trans hr
  intro e
  rcases ho.2 with ⟨rfl, _⟩ | ⟨g', cap, cur, rfl, _, hh, _⟩
  · cases e
  · have : g = g' := by injection e
    subst this
    rw [hr] at hh
    injection hh with hh
    injection hh with _ h2 _
    exact ht h2
theorem below_put {w W W' : World} {base n : Nat} {v : Value} {xs : List Value} (hb : Below base w W) (hbase : base ≤ W.heap.size) (ho : W.ownsRow base 5 1 v n xs) (hg : W.grownBy W' v.ownBlock) : Below base w W' :=
  hb.grown hg hbase (fun q hq => (ho.lt q hq).1)

end Go.Proofs.YtellhmbebimenaaDoor
end
