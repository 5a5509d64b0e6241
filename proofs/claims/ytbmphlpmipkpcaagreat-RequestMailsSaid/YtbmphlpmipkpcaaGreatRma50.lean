/- An argument that is a slice of bytes, read as a list. Tools: a mail handed in as an argument; which mails are the same. Contracts of the posting reference: at, put, Key, Bytes. Contracts of the posting reference: Key, Bytes, Of; and of posting.Of. Contracts: the references' put (16, 20), flight (16). -/
import Derived.Test.YtbmphlpmipkpcaaGreatRma1
import Derived.Test.YtbmphlpmipkpcaaGreatRma34
import Derived.Test.YtbmphlpmipkpcaaGreatRma37
import Derived.Test.YtbmphlpmipkpcaaGreatRma39
import Derived.Test.YtbmphlpmipkpcaaGreatRma40
import Derived.Test.YtbmphlpmipkpcaaGreatRma49
import Derived.Test.YtbmphlpmipkpcaaGreatRma45
import Derived.Deep.RegionHeld3
import Derived.Test.YtbmphlpmipkpcaaGreatRma5
import Derived.Lib.AppendStr

section
set_option linter.unusedVariables false
set_option linter.unusedSimpArgs false
namespace Go.Proofs.YtbmphlpmipkpcaaGreat
open Go.ChangeShapes Go.WideShapes Go.ChangeAt Go.RowKit Go.Deep

theorem spot_none {w : World} {a : Addr} {v : Value} (h : w.cell? a = some v) : a.spot = none := by
  unfold World.cell? at h
  split at h
  · split at h
    · cases h
    · rename_i hn
      cases hs : a.spot with
      | none => rfl
      | some z => simp [hs] at hn
  · cases h
theorem u8_of {n : Int} (h : (Lit.int .u8 n).wf = true) : ((UInt8.ofNat n.toNat).toNat : Int) = n := by
  have : 0 ≤ n ∧ n ≤ 255 := by simpa [Lit.wf, IntKind.min, IntKind.max, IntKind.signed, IntKind.bits] using h
  rw [UInt8.toNat_ofNat']; omega

section
variable {H : Type} {enc : TypeId × Value → H} {W : World} {base : Nat} {held : Bool}
set_option maxRecDepth 10000 in
theorem open_bytes_cell {fuel : Nat} {cs : List Value} {x : DataW H × List MemPlace} (h : DataW.trod enc Tryz.prog W base (fun _ => true) held fuel 47 cs = some x) : ∃ v l, cs = [v] ∧ BS W v l := by
  rcases open_ints Tryz.underlying47 Tryz.underlying5 (by kernel_rfl) h with ⟨rfl, _⟩ | ⟨a, len, cap, zs, rfl, hb, hl, hm, hz, hx, hc, hw⟩
  · exact ⟨_, [], rfl, BS.nil W⟩
  · simp only [ite_true] at hz
    have hll : ((zs.take len).map fun z => UInt8.ofNat z.toNat).length = len := by simp; omega
    refine ⟨_, (zs.take len).map (fun z => UInt8.ofNat z.toNat), rfl, some a, cap, by rw [hll], by omega, hm, fun hne => ?_⟩
    have hpos : 0 < len := by
      rcases Nat.eq_zero_or_pos len with h0 | h0
      · subst h0; simp at hne
      · exact h0
    have h0 := hc 0 (by omega)
    have hs := spot_none h0
    have hblk := cell_blockW h0
    obtain ⟨b, o, sp⟩ := a
    have hs' : sp = none := by simpa [Addr.add] using hs
    subst hs'
    refine ⟨b, o, rfl, by simpa [Addr.add] using hblk, fun i x hx => ?_⟩
    have hi : i < len := by have := (List.getElem?_eq_some_iff.1 hx).1; omega
    have hci := hc i (by omega)
    rw [Go.WideShapes.add_plain] at hci
    rw [hci]
    have hzi : zs[i]? = some (zs.getD i 0) := by rw [List.getD_eq_getElem?_getD, List.getElem?_eq_getElem (by omega)]; rfl
    rw [List.getElem?_map, List.getElem?_take_of_lt hi, hzi] at hx
    injection hx with hx
    rw [← hx, u8_of (hw _ (List.mem_of_getElem? hzi))]

set_option maxRecDepth 10000 in
theorem open_bytes {v : Value} {r : Reach} {b0 : Nat} {d : DataW H} {ps : List MemPlace} (hv : Value.okWide Tryz.prog W r b0 47 v)
    (h : DataW.Trod enc Tryz.prog W base (fun _ => true) held 47 v d ps) : ∃ l : List UInt8, BS W v l := by
  have hcs : v.cells = #[v] := by
    simp only [Value.okWide, Tryz.underlying47] at hv
    cases v <;> first | rfl | simp [Cell.okWide, Cell.ok] at hv
  obtain ⟨fuel, hf⟩ := h
  rw [hcs] at hf
  obtain ⟨u, l, hu, hb⟩ := open_bytes_cell hf
  injection hu with hu _
  subst hu
  exact ⟨l, hb⟩
end
end Go.Proofs.YtbmphlpmipkpcaaGreat
end

section
set_option linter.unusedVariables false
set_option linter.unusedSimpArgs false
namespace Go.Proofs.YtbmphlpmipkpcaaGreat
open Go.ChangeShapes Go.WideShapes Go.ChangeAt Go.RowKit Go.Deep

def mlK : List IntKind := [.i64, .u64, .i64, .i64, .i64, .i64, .i64, .i64, .i64, .i64, .u64]
theorem ml_leaves : leaves Tryz.prog 4 78 = some (mlK.map .int) := by kernel_rfl
structure Ml.wf (x : Ml) : Prop where
  tk : U64 x.tk
  va : I64 x.va
theorem ml_of_ints (zs : List Int) (h : IntsOk mlK zs) : ∃ x : Ml, x.arr.toList = encI mlK zs ∧ x.wf := by
  unfold mlK at h
  obtain ⟨z0, r0, rfl, w0, h⟩ := h.cons
  obtain ⟨z1, r1, rfl, w1, h⟩ := h.cons
  obtain ⟨z2, r2, rfl, w2, h⟩ := h.cons
  obtain ⟨z3, r3, rfl, w3, h⟩ := h.cons
  obtain ⟨z4, r4, rfl, w4, h⟩ := h.cons
  obtain ⟨z5, r5, rfl, w5, h⟩ := h.cons
  obtain ⟨z6, r6, rfl, w6, h⟩ := h.cons
  obtain ⟨z7, r7, rfl, w7, h⟩ := h.cons
  obtain ⟨z8, r8, rfl, w8, h⟩ := h.cons
  obtain ⟨z9, r9, rfl, w9, h⟩ := h.cons
  obtain ⟨z10, r10, rfl, w10, h⟩ := h.cons
  obtain rfl := h.nil
  exact ⟨⟨z0, z1, z2, z3, z4, z5, z6, z7, z8, z9, z10⟩, rfl, u64_wf w1, i64_wf w7⟩
section
variable {H : Type} {enc : TypeId × Value → H} {W : World} {held : Bool}
set_option maxRecDepth 10000 in
theorem open_mail {r : Reach} {b0 : Nat} {v : Value} {d : DataW H} {ps : List MemPlace} (hv : Value.okWide Tryz.prog W r b0 78 v) (h : DataW.Trod enc Tryz.prog W 0 (fun _ => true) held 78 v d ps) : ∃ x : Ml, v = .agg #[.int .i64 x.k, .int .u64 x.tk, .int .i64 x.c, .int .i64 x.d, .int .i64 x.co, .int .i64 x.fl, .int .i64 x.dy, .int .i64 x.va, .int .i64 x.st, .int .i64 x.ho, .int .u64 x.nx] ∧ x.wf := by
  obtain ⟨cs, rfl, hc⟩ := open_leaves Tryz.underlying78 ml_leaves hv h
  obtain ⟨zs, hz, rfl⟩ := ints_of_all hc
  obtain ⟨x, hx, hf⟩ := ml_of_ints zs hz
  exact ⟨x, by rw [← hx]; rfl, hf⟩
end
def eqMl (x y : Ml) : Bool := Ltr.eqM x.k x.tk x.c x.d x.co x.fl x.dy x.va x.st x.ho x.nx y.k y.tk y.c y.d y.co y.fl y.dy y.va y.st y.ho y.nx
theorem eqMl_self (x : Ml) : eqMl x x = true := by unfold eqMl Ltr.eqM; simp
theorem guardMn (x y : Operand) (xs ys : Array Value) (w : World) : (eqGuard .neq 78 x y (.agg xs) (.agg ys)).run Tryz.prog w = .ok () w := run_eqGuard_agg w _ _ _ _ _ _ (by kernel_rfl)
theorem neqMl (x y : Ml) (w : World) : (binOp .neq 78 (.agg #[.int .i64 x.k, .int .u64 x.tk, .int .i64 x.c, .int .i64 x.d, .int .i64 x.co, .int .i64 x.fl, .int .i64 x.dy, .int .i64 x.va, .int .i64 x.st, .int .i64 x.ho, .int .u64 x.nx]) (.agg #[.int .i64 y.k, .int .u64 y.tk, .int .i64 y.c, .int .i64 y.d, .int .i64 y.co, .int .i64 y.fl, .int .i64 y.dy, .int .i64 y.va, .int .i64 y.st, .int .i64 y.ho, .int .u64 y.nx])).run Tryz.prog w = .ok (.bool (!eqMl x y)) w := by
  rw [run_neq_struct, eqInM]
  rfl
attribute [local go_sem ↓] ml_execLoad ml_execStore

attribute [local go_sem] ml_load ml_store loL_drew okL_drew there_sc World.there_drew

set_option maxRecDepth 8000 in
set_option maxHeartbeats 1000000 in
theorem sameMail_any (x y : Ml) (w : World) : Calls Tryz.prog 39 #[.agg #[.int .i64 x.k, .int .u64 x.tk, .int .i64 x.c, .int .i64 x.d, .int .i64 x.co, .int .i64 x.fl, .int .i64 x.dy, .int .i64 x.va, .int .i64 x.st, .int .i64 x.ho, .int .u64 x.nx], .agg #[.int .i64 y.k, .int .u64 y.tk, .int .i64 y.c, .int .i64 y.d, .int .i64 y.co, .int .i64 y.fl, .int .i64 y.dy, .int .i64 y.va, .int .i64 y.st, .int .i64 y.ho, .int .u64 y.nx]] w fun e w' => e = .returned (.bool (eqMl x y)) ∧ Below w.heap.size w w' := by
  have hb1 := (Below.refl w.heap.size w).alloc (Nat.le_refl _) (.cells #[.int .i64 x.k, .int .u64 x.tk, .int .i64 x.c, .int .i64 x.d, .int .i64 x.co, .int .i64 x.fl, .int .i64 x.dy, .int .i64 x.va, .int .i64 x.st, .int .i64 x.ho, .int .u64 x.nx] 78)
  have hr1 := new_rowW w (.cells #[.int .i64 x.k, .int .u64 x.tk, .int .i64 x.c, .int .i64 x.d, .int .i64 x.co, .int .i64 x.fl, .int .i64 x.dy, .int .i64 x.va, .int .i64 x.st, .int .i64 x.ho, .int .u64 x.nx] 78) _ rfl
  have hb2 := (Below.refl (w.alloc (.cells #[.int .i64 x.k, .int .u64 x.tk, .int .i64 x.c, .int .i64 x.d, .int .i64 x.co, .int .i64 x.fl, .int .i64 x.dy, .int .i64 x.va, .int .i64 x.st, .int .i64 x.ho, .int .u64 x.nx] 78)).heap.size (w.alloc (.cells #[.int .i64 x.k, .int .u64 x.tk, .int .i64 x.c, .int .i64 x.d, .int .i64 x.co, .int .i64 x.fl, .int .i64 x.dy, .int .i64 x.va, .int .i64 x.st, .int .i64 x.ho, .int .u64 x.nx] 78))).alloc (Nat.le_refl _) (.cells #[.int .i64 y.k, .int .u64 y.tk, .int .i64 y.c, .int .i64 y.d, .int .i64 y.co, .int .i64 y.fl, .int .i64 y.dy, .int .i64 y.va, .int .i64 y.st, .int .i64 y.ho, .int .u64 y.nx] 78)
  have hr2 := new_rowW (w.alloc (.cells #[.int .i64 x.k, .int .u64 x.tk, .int .i64 x.c, .int .i64 x.d, .int .i64 x.co, .int .i64 x.fl, .int .i64 x.dy, .int .i64 x.va, .int .i64 x.st, .int .i64 x.ho, .int .u64 x.nx] 78)) (.cells #[.int .i64 y.k, .int .u64 y.tk, .int .i64 y.c, .int .i64 y.d, .int .i64 y.co, .int .i64 y.fl, .int .i64 y.dy, .int .i64 y.va, .int .i64 y.st, .int .i64 y.ho, .int .u64 y.nx] 78) _ rfl
  have hr3 := (hb2.block _ (block_lt hr1)).trans hr1
  have hsz : (w.alloc (.cells #[.int .i64 x.k, .int .u64 x.tk, .int .i64 x.c, .int .i64 x.d, .int .i64 x.co, .int .i64 x.fl, .int .i64 x.dy, .int .i64 x.va, .int .i64 x.st, .int .i64 x.ho, .int .u64 x.nx] 78)).heap.size = w.heap.size + 1 := by simp
  rw [hsz] at hr2
  have HB := Lib.hid (hb1.trans (hb2.mono hb1.size))
  obtain ⟨f1, f2⟩ := row_loT 11 hr3 rfl rfl
  obtain ⟨f3, f4⟩ := row_loT 11 hr2 rfl rfl
  clear hb1 hb2 hr1 hr2 hr3 hsz
  have HE : ∀ W : World, (binOp .eql 78 (.agg #[.int .i64 x.k, .int .u64 x.tk, .int .i64 x.c, .int .i64 x.d, .int .i64 x.co, .int .i64 x.fl, .int .i64 x.dy, .int .i64 x.va, .int .i64 x.st, .int .i64 x.ho, .int .u64 x.nx]) (.agg #[.int .i64 y.k, .int .u64 y.tk, .int .i64 y.c, .int .i64 y.d, .int .i64 y.co, .int .i64 y.fl, .int .i64 y.dy, .int .i64 y.va, .int .i64 y.st, .int .i64 y.ho, .int .u64 y.nx])).run Tryz.prog W = .ok (.bool (eqMl x y)) W := fun W => eqM x.k x.tk x.c x.d x.co x.fl x.dy x.va x.st x.ho x.nx y.k y.tk y.c y.d y.co y.fl y.dy y.va y.st y.ho y.nx W
  have hG := guardM
  generalize eqMl x y = q at *
  go_enter Tryz.func39, Tryz.ntmps39
  go_wp2_with fail
  go_ret
  exact ⟨rfl, HB.out⟩
end Go.Proofs.YtbmphlpmipkpcaaGreat
end

section
set_option linter.unusedVariables false
set_option linter.unusedSimpArgs false
namespace Go.Proofs.YtbmphlpmipkpcaaGreat
open Go.RowKit

set_option maxRecDepth 4000 in
set_option maxHeartbeats 1000000 in
theorem at14_any (v : Value) (b : List UInt8) (fr : Nat) (hfr : fr ≤ b.length) (s : Int) (w : World) (hv : BS w v b) :
    Calls Tryz.prog 121 #[v, .int .i64 (fr : Int), .int .i64 s] w fun e w' => e = .returned (.int .u64 (numV (b.drop fr) s : Int)) ∧ ∃ nd, w' = w.drewN nd := by
  have HV := Lib.hid hv
  obtain ⟨p, cap, rfl, g1, g2, -⟩ := hv
  have HTN := Lib.hid (rTakeNumber_any _ (b.drop fr) s w (HV.out.tail hfr))
  have HVT := Lib.hid (HV.out.tail hfr)
  have f2 := run_tail p b.length cap fr hfr g1
  generalize numV (b.drop fr) s = V at *
  generalize tailAt p cap fr = q at *
  generalize b.length = m at *
  unfold maxLen at g2
  go_enter Tryz.func121, Tryz.ntmps121
  go_wp2_with fail
  refine HTN.out.mono ?_
  rintro e w1 ⟨y, rfl, hy, nd, rfl⟩
  obtain ⟨py, cy, rfl, -, -, -⟩ := hy w HVT.out
  clear hy
  go_wp2
  go_ret
  exact ⟨rfl, nd, rfl⟩

set_option maxRecDepth 4000 in
set_option maxHeartbeats 1000000 in
theorem put14_any (base : Nat) (v : Value) (L : List UInt8) (N : Nat) (hN : N < 18446744073709551616) (s : Nat) (hs : s = 1 ∨ s = 2 ∨ s = 4 ∨ s = 8) (hfit : N < 256 ^ s) (hL : L.length ≤ 1000) (w : World) (hb : base ≤ w.heap.size) (ho : w.ownsRow base 5 1 v L.length (bytesV L)) :
    Calls Tryz.prog 171 #[v, .int .u64 (N : Int), .int .i64 (s : Int)] w fun e w' => ∃ u, e = .returned u ∧ w'.ownsRow base 5 1 u (L ++ Wire.be N s).length (bytesV (L ++ Wire.be N s)) ∧ w.grownBy w' v.ownBlock := by
  have HNU := Lib.hid (rNumber_any N hN (s : Int) w)
  have hp : pNum N (s : Int) = some (Wire.be N s) := by
    unfold pNum
    rw [if_pos ⟨by rcases hs with rfl | rfl | rfl | rfl <;> rfl, by rw [Int.toNat_natCast]; exact hfit⟩, Int.toNat_natCast]
  rw [hp] at HNU
  have HLB := Lib.hid (Wire.be_length N s)
  have HO := Lib.hid ho
  have HLL := Lib.hid hL
  obtain ⟨q, c, rfl⟩ := own_form ho
  clear hp hfit ho hL
  rw [show pGet (some (Wire.be N s)) = Wire.be N s from rfl, show (some (Wire.be N s)).isSome = true from rfl] at HNU
  generalize Wire.be N s = B at *
  generalize hLn : L.length = nl at *
  have HLN := Lib.hid hLn
  clear hLn
  go_enter Tryz.func171, Tryz.ntmps171
  go_wp2_with fail
  refine HNU.out.mono ?_
  rintro e w1 ⟨u, rfl, hown, hb1⟩
  have HOB := Lib.hid (BS.of_own hown)
  have HB := Lib.hid hb1
  have HO1 := Lib.hid (own_below HO.out hb1)
  obtain ⟨q1, c1, rfl⟩ := own_form hown
  clear hown hb1
  go_wp2_with (at_builtin; refine wpList_append_bytes rfl _ _ rfl base _ _ _ rfl HO1.out _ B rfl HOB.out ?c1 ?c2 ?_)
  case c1 => have := HLB.out; have := HLL.out; omega
  case c2 => have := HB.out.size; omega
  intro v2 w2 hown2 hg2 hn2 hat2
  have HG : Hid (w.grownBy w2 (Value.slice q nl c).ownBlock) := Lib.hid ⟨hg2.os.trans HB.out.os, hg2.tape.trans HB.out.tape, hg2.output.trans HB.out.output, Nat.le_trans HB.out.size hg2.size, fun k hk hne => (hg2.block k (Nat.lt_of_lt_of_le hk HB.out.size) hne).trans (HB.out.block k hk)⟩
  have HO2 : Hid (w2.ownsRow base 5 1 v2 (L ++ B).length (bytesV (L ++ B))) := Lib.hid (by rw [List.length_append, bytesV_append, HLN.out]; exact hown2)
  obtain ⟨q2, c2, rfl⟩ := own_form hown2
  clear hown2 hg2 hn2 hat2
  go_wp2
  go_ret
  exact ⟨_, rfl, by rw [List.length_append, HLN.out]; have := HO2.out; rwa [List.length_append, HLN.out] at this, HG.out⟩
end Go.Proofs.YtbmphlpmipkpcaaGreat
end

section
set_option linter.unusedVariables false
set_option linter.unusedSimpArgs false
namespace Go.Proofs.YtbmphlpmipkpcaaGreat
open Go.RowKit

theorem row_put {W W' : World} {base n g : Nat} {v : Value} {xs : List Value} {cs : Array Value} {t : TypeId} {fr : Nat × Nat} (ho : W.ownsRow base 5 1 v n xs) (hg : W.grownBy W' v.ownBlock) (hr : W.heap[g]? = some (.cells cs t fr)) (ht : t ≠ 5) : W'.heap[g]? = some (.cells cs t fr) := by
  refine (hg.block g (block_lt hr) ?_).trans hr
  intro e
  rcases ho.2 with ⟨rfl, _⟩ | ⟨g', cap, cur, rfl, _, hh, _⟩
  · cases e
  · have : g = g' := by injection e
    subst this
    rw [hr] at hh
    injection hh with hh
    injection hh with _ h2 _
    exact ht h2
theorem below_put {w W W' : World} {base n : Nat} {v : Value} {xs : List Value} (hb : Below base w W) (hbase : base ≤ W.heap.size) (ho : W.ownsRow base 5 1 v n xs) (hg : W.grownBy W' v.ownBlock) : Below base w W' :=
  hb.grown hg hbase (fun q hq => (ho.lt q hq).1)

end Go.Proofs.YtbmphlpmipkpcaaGreat
end

section
set_option linter.unusedVariables false
set_option linter.unusedSimpArgs false
namespace Go.Proofs.YtbmphlpmipkpcaaGreat
open Go.RowKit

def fitB (n : Int) (b : Nat) : Prop := 0 ≤ n ∧ n.toNat < b
set_option maxRecDepth 4000 in
set_option maxHeartbeats 1000000 in
theorem put16n_any (base : Nat) (v : Value) (L : List UInt8) (N : Nat) (hN : N < 18446744073709551616) (s : Nat) (hs : s = 1 ∨ s = 2 ∨ s = 4 ∨ s = 8) (hfit : N < 256 ^ s) (hL : L.length ≤ 1000) (w : World) (hb : base ≤ w.heap.size) (ho : w.ownsRow base 5 1 v L.length (bytesV L)) :
    Calls Tryz.prog 79 #[v, .int .u64 (N : Int), .int .i64 (s : Int)] w fun e w' => ∃ u, e = .returned u ∧ w'.ownsRow base 5 1 u (L ++ Wire.be N s).length (bytesV (L ++ Wire.be N s)) ∧ w.grownBy w' v.ownBlock := by
  have HNU := Lib.hid (rNumber_any N hN (s : Int) w)
  have hp : pNum N (s : Int) = some (Wire.be N s) := by
    unfold pNum
    rw [if_pos ⟨by rcases hs with rfl | rfl | rfl | rfl <;> rfl, by rw [Int.toNat_natCast]; exact hfit⟩, Int.toNat_natCast]
  rw [hp] at HNU
  have HLB := Lib.hid (Wire.be_length N s)
  have HO := Lib.hid ho
  have HLL := Lib.hid hL
  obtain ⟨q, c, rfl⟩ := own_form ho
  clear hp hfit ho hL
  rw [show pGet (some (Wire.be N s)) = Wire.be N s from rfl, show (some (Wire.be N s)).isSome = true from rfl] at HNU
  generalize Wire.be N s = B at *
  generalize hLn : L.length = nl at *
  have HLN := Lib.hid hLn
  clear hLn
  go_enter Tryz.func79, Tryz.ntmps79
  go_wp2_with fail
  refine HNU.out.mono ?_
  rintro e w1 ⟨u, rfl, hown, hb1⟩
  have HOB := Lib.hid (BS.of_own hown)
  have HB := Lib.hid hb1
  have HO1 := Lib.hid (own_below HO.out hb1)
  obtain ⟨q1, c1, rfl⟩ := own_form hown
  clear hown hb1
  go_wp2_with (at_builtin; refine wpList_append_bytes rfl _ _ rfl base _ _ _ rfl HO1.out _ B rfl HOB.out ?c1 ?c2 ?_)
  case c1 => have := HLB.out; have := HLL.out; omega
  case c2 => have := HB.out.size; omega
  intro v2 w2 hown2 hg2 hn2 hat2
  have HG : Hid (w.grownBy w2 (Value.slice q nl c).ownBlock) := Lib.hid ⟨hg2.os.trans HB.out.os, hg2.tape.trans HB.out.tape, hg2.output.trans HB.out.output, Nat.le_trans HB.out.size hg2.size, fun k hk hne => (hg2.block k (Nat.lt_of_lt_of_le hk HB.out.size) hne).trans (HB.out.block k hk)⟩
  have HO2 : Hid (w2.ownsRow base 5 1 v2 (L ++ B).length (bytesV (L ++ B))) := Lib.hid (by rw [List.length_append, bytesV_append, HLN.out]; exact hown2)
  obtain ⟨q2, c2, rfl⟩ := own_form hown2
  clear hown2 hg2 hn2 hat2
  go_wp2
  go_ret
  exact ⟨_, rfl, by rw [List.length_append, HLN.out]; have := HO2.out; rwa [List.length_append, HLN.out] at this, HG.out⟩
theorem put16_any (base : Nat) (v : Value) (L : List UInt8) (z : Int) (s : Nat) (hs : s = 1 ∨ s = 2 ∨ s = 4 ∨ s = 8) {b : Nat} (hz : fitB z b) (hb256 : b ≤ 256 ^ s) (hL : L.length ≤ 1000) (w : World) (hb : base ≤ w.heap.size) (ho : w.ownsRow base 5 1 v L.length (bytesV L)) :
    Calls Tryz.prog 79 #[v, .int .u64 z, .int .i64 (s : Int)] w fun e w' => ∃ u, e = .returned u ∧ w'.ownsRow base 5 1 u (L ++ Wire.be z.toNat s).length (bytesV (L ++ Wire.be z.toNat s)) ∧ w.grownBy w' v.ownBlock := by
  have hN : z.toNat < 256 ^ s := Nat.lt_of_lt_of_le hz.2 hb256
  have h := put16n_any base v L z.toNat (Nat.lt_of_lt_of_le hN (by rcases hs with rfl | rfl | rfl | rfl <;> decide)) s hs hN hL w hb ho
  rwa [Int.toNat_of_nonneg hz.1] at h
theorem wrap_fit {z : Int} {b : Nat} (h : fitB z b) (hb : b ≤ 18446744073709551616) : IntKind.u64.wrap z = z := by
  rw [IntKind.wrap_u64]
  have h1 := h.1
  have h2 := h.2
  omega
theorem wrap_byte {z : Int} (h : fitB z 256) : IntKind.u8.wrap z = z := by
  have h1 := h.1
  have h2 := h.2
  simp [IntKind.wrap, IntKind.signed, IntKind.bits]
  omega
/-- where the bytes are put together -/
structure YW (w W : World) (v : Value) (D : List UInt8) (K : Nat) : Prop where
  b : Below w.heap.size w W
  o : W.ownsRow w.heap.size 5 1 v D.length (bytesV D)
  l : D.length ≤ K
theorem YW.below {w W W' : World} {v : Value} {D : List UInt8} {K : Nat} (h : YW w W v D K) (hb : Below W.heap.size W W') : YW w W' v D K := ⟨h.b.trans (hb.mono h.b.size), own_below h.o hb, h.l⟩
theorem YW.app {w W W' : World} {v v' : Value} {D E : List UInt8} {K n : Nat} (h : YW w W v D K) (ho : W'.ownsRow w.heap.size 5 1 v' (D.length + n) (bytesV D ++ bytesV E)) (hg : W.grownBy W' v.ownBlock) (k : Nat) (hk : E.length = k) (hn : n = E.length := by rfl) : YW w W' v' (D ++ E) (K + k) := by
  refine ⟨h.b.grown hg h.b.size (fun b hb => (h.o.lt b hb).1), ?_, by rw [List.length_append]; have := h.l; omega⟩
  rw [List.length_append, bytesV_append, ← hn]
  exact ho
theorem YW.grown {w W W' : World} {v v' : Value} {D E : List UInt8} {K : Nat} (h : YW w W v D K) (ho : W'.ownsRow w.heap.size 5 1 v' (D ++ E).length (bytesV (D ++ E))) (hg : W.grownBy W' v.ownBlock) (k : Nat) (hk : E.length = k) : YW w W' v' (D ++ E) (K + k) :=
  ⟨h.b.grown hg h.b.size (fun b hb => (h.o.lt b hb).1), ho, by rw [List.length_append]; have := h.l; omega⟩
theorem YW.row {w W W' : World} {v : Value} {D : List UInt8} {K : Nat} (h : YW w W v D K) (hg : W.grownBy W' v.ownBlock) {g : Nat} {cs : Array Value} {t : TypeId} {fr : Nat × Nat} (hr : W.heap[g]? = some (.cells cs t fr)) (ht : 5 ≠ t) : W'.heap[g]? = some (.cells cs t fr) :=
  (hg.block g (block_lt hr) (own_ne h.o hr ht)).trans hr
theorem lits_len : ∀ zs : List Int, (zs.flatMap fun z => Wire.be z.toNat 1).length = zs.length
  | [] => rfl
  | z :: zs => by rw [List.flatMap_cons, List.length_append, lits_len zs, Wire.be_length, List.length_cons]; omega
theorem YW.as {w W : World} {v : Value} {D D' : List UInt8} {K K' : Nat} (h : YW w W v D K) (hd : D = D') (hk : K ≤ K') : YW w W v D' K' := by
  subst hd
  exact ⟨h.b, h.o, Nat.le_trans h.l hk⟩
theorem bs_lits {W : World} {g : Nat} {cs : Array Value} (hr : W.heap[g]? = some (.cells cs 5 (0, 0))) (zs : List Int) (hm : zs.length ≤ 1000) (hz : ∀ z ∈ zs, fitB z 256) (hc : cs = (zs.map (Value.int .u8)).toArray) : BS W (.slice (some ⟨g, 0, none⟩) zs.length zs.length) (zs.flatMap fun z => Wire.be z.toNat 1) := by
  have e : bytesV (zs.flatMap fun z => Wire.be z.toNat 1) = zs.map (Value.int .u8) := by
    clear hr hc hm
    induction zs with
    | nil => rfl
    | cons z zs ih =>
      rw [List.flatMap_cons, bytesV_append, ih (fun y hy => hz y (by simp [hy]))]
      have h1 := hz z (by simp)
      have h2 : Wire.be z.toNat 1 = [UInt8.ofNat (z.toNat % 256)] := rfl
      rw [h2]
      have h3 : ((UInt8.ofNat (z.toNat % 256)).toNat : Int) = z := by
        rw [UInt8.toNat_ofNat']
        have := h1.1
        have := h1.2
        omega
      show (Value.int .u8 ((UInt8.ofNat (z.toNat % 256)).toNat : Int)) :: _ = _
      rw [h3]
      rfl
  refine BS.of_own (base := 0) (e := 5) (n := zs.length) ⟨by rw [e]; simp, .inr ⟨g, zs.length, cs, rfl, Nat.zero_le _, hr, Nat.le_refl _, by unfold maxLen; omega, by rw [hc]; simp, ?_⟩⟩
  rw [hc, e, Nat.mul_one, List.toList_toArray, List.take_of_length_le (by simp)]
theorem step_append_bytesT {ops : Array Oper} {o : Oper} {a : Act} {K : Act → World → Prop} {Q : Exit → Act → World → Prop} {E : Prop} {w : World} (hgd : o.guard = none) (s x : Operand)
    (ho : o.op = .call { callee := .builtin .append, args := #[s, x], argTypes := #[47, 47] }) (base : Nat) (v : Value) (n : Nat) (xs : List Value) (hs : a.eval s = v) (hown : w.ownsRow base 5 1 v n xs)
    (y : Value) (l : List UInt8) (hx : a.eval x = y) (hb : BS w y l) (hn : n + l.length ≤ 1099511627776) (hbase : base ≤ w.heap.size)
    (h : ∀ v' w', w'.ownsRow base 5 1 v' (n + l.length) (xs ++ bytesV l) → w.grownBy w' v.ownBlock → K (a.put o.dst v') w') :
    if Region.wanted o (yielded ops a.tmps) = true then Oper.wp Tryz.prog o a w K Q else E := by
  have hw : Region.wanted o (yielded ops a.tmps) = true := by simp [Region.wanted, hgd]
  rw [if_pos hw]
  obtain ⟨v', w', hr, g1, g2, _, _⟩ := run_append_bytes w base o.type v n xs hown y l hb hn hbase
  exact Lib.wp_append_run w s x _ _ ho v _ hs hx v' w' hr (h v' w' g1 g2)
theorem kept_put {W W' : World} {base n : Nat} {v : Value} {xs : List Value} (ho : W.ownsRow base 5 1 v n xs) (hg : W.grownBy W' v.ownBlock) : Kept [5] W W' :=
  ⟨hg.size, fun i cs t fr hi ht => row_put ho hg hi (fun e => ht (by rw [e]; exact .head _))⟩
def fl16 (fl dy va : Int) : List UInt8 := (Wire.be fl.toNat 2 ++ Wire.be dy.toNat 4) ++ Wire.be va.toNat 8
set_option maxRecDepth 4000 in
set_option maxHeartbeats 2000000 in
theorem flight16_any (base : Nat) (v : Value) (L : List UInt8) (fl dy va st ho nx : Int) (hL : L.length ≤ 900) (f1 : fitB fl 65536) (f2 : fitB dy 4294967296) (f3 : fitB va 18446744073709551616) (w : World) (hbase : base ≤ w.heap.size) (hown : w.ownsRow base 5 1 v L.length (bytesV L)) :
    Calls Tryz.prog 80 #[v, .agg #[.int .i64 fl, .int .i64 dy, .int .i64 va, .int .i64 st, .int .i64 ho, .int .u64 nx]] w fun e w' => ∃ u, e = .returned u ∧ w'.ownsRow base 5 1 u (L ++ fl16 fl dy va).length (bytesV (L ++ fl16 fl dy va)) ∧ Below base w w' ∧ Kept [5] w w' := by
  have z1 := wrap_fit f1 (by decide)
  have z2 := wrap_fit f2 (by decide)
  have z3 := wrap_fit f3 (by decide)
  have hb0 := (Below.refl w.heap.size w).alloc (Nat.le_refl _) (.cells #[.int .i64 fl, .int .i64 dy, .int .i64 va, .int .i64 st, .int .i64 ho, .int .u64 nx] 33)
  have hrw := new_rowW w (.cells #[.int .i64 fl, .int .i64 dy, .int .i64 va, .int .i64 st, .int .i64 ho, .int .u64 nx] 33) _ rfl
  have ho0 := own_below hown hb0
  have hk : Kept [5] w (w.alloc (.cells #[.int .i64 fl, .int .i64 dy, .int .i64 va, .int .i64 st, .int .i64 ho, .int .u64 nx] 33)) := Kept.of_below hb0
  have hb := hb0.mono hbase
  have hbz := Nat.le_trans hbase hb0.size
  have hl1 : (L ++ Wire.be fl.toNat 2).length ≤ 1000 := by rw [List.length_append, Wire.be_length]; omega
  have hl2 : (L ++ Wire.be fl.toNat 2 ++ Wire.be dy.toNat 4).length ≤ 1000 := by rw [List.length_append, List.length_append, Wire.be_length, Wire.be_length]; omega
  have HFL : Hid (L ++ fl16 fl dy va = L ++ Wire.be fl.toNat 2 ++ Wire.be dy.toNat 4 ++ Wire.be va.toNat 8) := Lib.hid (by unfold fl16; simp only [List.append_assoc])
  clear hb0 hown
  go_enter Tryz.func80, Tryz.ntmps80
  go_wp2_with fail
  generalize w.alloc (.cells #[.int .i64 fl, .int .i64 dy, .int .i64 va, .int .i64 st, .int .i64 ho, .int .u64 nx] 33) = W0 at *
  have hc0 := fun j => cell_of_row W0 w.heap.size j _ _ _ hrw
  have hb := hb.drew
  have hk : Kept [5] w W0.drew := hk.trans (Kept.of_below (Below.refl _ _).drew)
  have ho0 := own_below ho0 (Below.refl _ _).drew
  have hbz : base ≤ W0.drew.heap.size := hbz
  have hrw : W0.drew.heap[w.heap.size]? = _ := hrw
  go_region_held3 (fun w' => w'.cell? ⟨w.heap.size, 0, none⟩ = some (.int .i64 fl) ∧ w'.cell? ⟨w.heap.size, 1, none⟩ = some (.int .i64 dy) ∧ w'.cell? ⟨w.heap.size, 2, none⟩ = some (.int .i64 va)) (first | exact ⟨cell_of_row _ _ 0 _ _ _ hrw, cell_of_row _ _ 1 _ _ _ hrw, cell_of_row _ _ 2 _ _ _ hrw⟩ | go_keep) (first
    | (go_at_call 79; refine (put16_any base _ _ va 8 (by decide) f3 (by decide) hl2 _ hbz ho2).mono ?_; rintro e w3 ⟨u3, rfl, ho3, hg3⟩; have hrw := row_put ho2 hg3 hrw (by decide); have hb := below_put hb hbz ho2 hg3; have hk := hk.trans (kept_put ho2 hg3); have hbz := Nat.le_trans hbz hg3.size)
    | (go_at_call 79; refine (put16_any base _ _ dy 4 (by decide) f2 (by decide) hl1 _ hbz ho1).mono ?_; rintro e w2 ⟨u2, rfl, ho2, hg2⟩; have hrw := row_put ho1 hg2 hrw (by decide); have hb := below_put hb hbz ho1 hg2; have hk := hk.trans (kept_put ho1 hg2); have hbz := Nat.le_trans hbz hg2.size)
    | (go_at_call 79; refine (put16_any base _ _ fl 2 (by decide) f1 (by decide) (by omega) _ hbz ho0).mono ?_; rintro e w1 ⟨u1, rfl, ho1, hg1⟩; have hrw := row_put ho0 hg1 hrw (by decide); have hb := below_put hb hbz ho0 hg1; have hk := hk.trans (kept_put ho0 hg1); have hbz := Nat.le_trans hbz hg1.size))
  have HF := Lib.hid hb
  have HO := Lib.hid ho3
  have HK := Lib.hid hk
  clear hb ho1 ho2 ho3 hg1 hg2 hg3 hrw hk ho0 hc0
  go_wp2
  go_ret
  exact ⟨_, rfl, by rw [HFL.out]; exact HO.out, HF.out, HK.out⟩
end Go.Proofs.YtbmphlpmipkpcaaGreat
end
