/- Contracts: the references' put (16, 20), flight (16). -/
import Derived.Test.YtellhmbebimenaaDoorLr43
import Derived.Test.YtellhmbebimenaaDoorLr3
import Derived.Test.YtellhmbebimenaaDoorLr29
import Derived.Deep.RegionHeld3
import Derived.Lib.AppendStr

set_option linter.unusedVariables false
set_option linter.unusedSimpArgs false
namespace Go.Proofs.YtellhmbebimenaaDoor
open Go.RowKit

def fitB (n : Int) (b : Nat) : Prop := 0 ≤ n ∧ n.toNat < b
set_option maxRecDepth 4000 in
set_option maxHeartbeats 1000000 in
theorem put16n_any (base : Nat) (v : Value) (L : List UInt8) (N : Nat) (hN : N < 18446744073709551616) (s : Nat) (hs : s = 1 ∨ s = 2 ∨ s = 4 ∨ s = 8) (hfit : N < 256 ^ s) (hL : L.length ≤ 1000) (w : World) (hb : base ≤ w.heap.size) (ho : w.ownsRow base 5 1 v L.length (bytesV L)) :
    Calls Tryd.prog 112 #[v, .int .u64 (N : Int), .int .i64 (s : Int)] w fun e w' => ∃ u, e = .returned u ∧ w'.ownsRow base 5 1 u (L ++ Wire.be N s).length (bytesV (L ++ Wire.be N s)) ∧ w.grownBy w' v.ownBlock := by
  have HNU := Lib.hid (rNumber_any N hN (s : Int) w)
  have hp : pNum N (s : Int) = some (Wire.be N s) := by
    unfold pNum
    rw [if_pos ⟨by rcases hs with rfl | rfl | rfl | rfl <;> rfl, by rw [Int.toNat_natCast]; exact hfit⟩, Int.toNat_natCast]
  rw [hp] at HNU
  have HLB := Lib.hid (Wire.be_length N s)
  have HO := Lib.hid ho
  have HLL := Lib.hid hL
  obtain ⟨q, c, rfl⟩ := own_form ho
  clear hp hfit ho hL
  rw [show pGet (some (Wire.be N s)) = Wire.be N s from rfl, show (some (Wire.be N s)).isSome = true from rfl] at HNU
  generalize Wire.be N s = B at *
  generalize hLn : L.length = nl at *
  have HLN := Lib.hid hLn
  clear hLn
  go_enter Tryd.func112, Tryd.ntmps112
  go_wp2_with fail
  refine HNU.out.mono ?_
  rintro e w1 ⟨u, rfl, hown, hb1⟩
  have HOB := Lib.hid (BS.of_own hown)
  have HB := Lib.hid hb1
  have HO1 := Lib.hid (own_below HO.out hb1)
  obtain ⟨q1, c1, rfl⟩ := own_form hown
  clear hown hb1
  go_wp2_with (at_builtin; refine wpList_append_bytes rfl _ _ rfl base _ _ _ rfl HO1.out _ B rfl HOB.out ?c1 ?c2 ?_)
  case c1 => have := HLB.out; have := HLL.out; omega
  case c2 => have := HB.out.size; omega
  intro v2 w2 hown2 hg2 hn2 hat2
  have HG : Hid (w.grownBy w2 (Value.slice q nl c).ownBlock) := Lib.hid ⟨hg2.os.trans HB.out.os, hg2.tape.trans HB.out.tape, hg2.output.trans HB.out.output, Nat.le_trans HB.out.size hg2.size, fun k hk hne => (hg2.block k (Nat.lt_of_lt_of_le hk HB.out.size) hne).trans (HB.out.block k hk)⟩
  have HO2 : Hid (w2.ownsRow base 5 1 v2 (L ++ B).length (bytesV (L ++ B))) := Lib.hid (by rw [List.length_append, bytesV_append, HLN.out]; exact hown2)
  obtain ⟨q2, c2, rfl⟩ := own_form hown2
  clear hown2 hg2 hn2 hat2
  go_wp2
  go_ret
  exact ⟨_, rfl, by rw [List.length_append, HLN.out]; have := HO2.out; rwa [List.length_append, HLN.out] at this, HG.out⟩
theorem put16_any (base : Nat) (v : Value) (L : List UInt8) (z : Int) (s : Nat) (hs : s = 1 ∨ s = 2 ∨ s = 4 ∨ s = 8) {b : Nat} (hz : fitB z b) (hb256 : b ≤ 256 ^ s) (hL : L.length ≤ 1000) (w : World) (hb : base ≤ w.heap.size) (ho : w.ownsRow base 5 1 v L.length (bytesV L)) :
    Calls Tryd.prog 112 #[v, .int .u64 z, .int .i64 (s : Int)] w fun e w' => ∃ u, e = .returned u ∧ w'.ownsRow base 5 1 u (L ++ Wire.be z.toNat s).length (bytesV (L ++ Wire.be z.toNat s)) ∧ w.grownBy w' v.ownBlock := by
  have hN : z.toNat < 256 ^ s := Nat.lt_of_lt_of_le hz.2 hb256
  have h := put16n_any base v L z.toNat (Nat.lt_of_lt_of_le hN (by rcases hs with rfl | rfl | rfl | rfl <;> decide)) s hs hN hL w hb ho
  rwa [Int.toNat_of_nonneg hz.1] at h
set_option maxRecDepth 4000 in
set_option maxHeartbeats 1000000 in
theorem put20n_any (base : Nat) (v : Value) (L : List UInt8) (N : Nat) (hN : N < 18446744073709551616) (s : Nat) (hs : s = 1 ∨ s = 2 ∨ s = 4 ∨ s = 8) (hfit : N < 256 ^ s) (hL : L.length ≤ 1000) (w : World) (hb : base ≤ w.heap.size) (ho : w.ownsRow base 5 1 v L.length (bytesV L)) :
    Calls Tryd.prog 57 #[v, .int .u64 (N : Int), .int .i64 (s : Int)] w fun e w' => ∃ u, e = .returned u ∧ w'.ownsRow base 5 1 u (L ++ Wire.be N s).length (bytesV (L ++ Wire.be N s)) ∧ w.grownBy w' v.ownBlock := by
  have HNU := Lib.hid (rNumber_any N hN (s : Int) w)
  have hp : pNum N (s : Int) = some (Wire.be N s) := by
    unfold pNum
    rw [if_pos ⟨by rcases hs with rfl | rfl | rfl | rfl <;> rfl, by rw [Int.toNat_natCast]; exact hfit⟩, Int.toNat_natCast]
  rw [hp] at HNU
  have HLB := Lib.hid (Wire.be_length N s)
  have HO := Lib.hid ho
  have HLL := Lib.hid hL
  obtain ⟨q, c, rfl⟩ := own_form ho
  clear hp hfit ho hL
  rw [show pGet (some (Wire.be N s)) = Wire.be N s from rfl, show (some (Wire.be N s)).isSome = true from rfl] at HNU
  generalize Wire.be N s = B at *
  generalize hLn : L.length = nl at *
  have HLN := Lib.hid hLn
  clear hLn
  go_enter Tryd.func57, Tryd.ntmps57
  go_wp2_with fail
  refine HNU.out.mono ?_
  rintro e w1 ⟨u, rfl, hown, hb1⟩
  have HOB := Lib.hid (BS.of_own hown)
  have HB := Lib.hid hb1
  have HO1 := Lib.hid (own_below HO.out hb1)
  obtain ⟨q1, c1, rfl⟩ := own_form hown
  clear hown hb1
  go_wp2_with (at_builtin; refine wpList_append_bytes rfl _ _ rfl base _ _ _ rfl HO1.out _ B rfl HOB.out ?c1 ?c2 ?_)
  case c1 => have := HLB.out; have := HLL.out; omega
  case c2 => have := HB.out.size; omega
  intro v2 w2 hown2 hg2 hn2 hat2
  have HG : Hid (w.grownBy w2 (Value.slice q nl c).ownBlock) := Lib.hid ⟨hg2.os.trans HB.out.os, hg2.tape.trans HB.out.tape, hg2.output.trans HB.out.output, Nat.le_trans HB.out.size hg2.size, fun k hk hne => (hg2.block k (Nat.lt_of_lt_of_le hk HB.out.size) hne).trans (HB.out.block k hk)⟩
  have HO2 : Hid (w2.ownsRow base 5 1 v2 (L ++ B).length (bytesV (L ++ B))) := Lib.hid (by rw [List.length_append, bytesV_append, HLN.out]; exact hown2)
  obtain ⟨q2, c2, rfl⟩ := own_form hown2
  clear hown2 hg2 hn2 hat2
  go_wp2
  go_ret
  exact ⟨_, rfl, by rw [List.length_append, HLN.out]; have := HO2.out; rwa [List.length_append, HLN.out] at this, HG.out⟩
theorem put20_any (base : Nat) (v : Value) (L : List UInt8) (z : Int) (s : Nat) (hs : s = 1 ∨ s = 2 ∨ s = 4 ∨ s = 8) {b : Nat} (hz : fitB z b) (hb256 : b ≤ 256 ^ s) (hL : L.length ≤ 1000) (w : World) (hb : base ≤ w.heap.size) (ho : w.ownsRow base 5 1 v L.length (bytesV L)) :
    Calls Tryd.prog 57 #[v, .int .u64 z, .int .i64 (s : Int)] w fun e w' => ∃ u, e = .returned u ∧ w'.ownsRow base 5 1 u (L ++ Wire.be z.toNat s).length (bytesV (L ++ Wire.be z.toNat s)) ∧ w.grownBy w' v.ownBlock := by
  have hN : z.toNat < 256 ^ s := Nat.lt_of_lt_of_le hz.2 hb256
  have h := put20n_any base v L z.toNat (Nat.lt_of_lt_of_le hN (by rcases hs with rfl | rfl | rfl | rfl <;> decide)) s hs hN hL w hb ho
  rwa [Int.toNat_of_nonneg hz.1] at h
theorem wrap_fit {z : Int} {b : Nat} (h : fitB z b) (hb : b ≤ 18446744073709551616) : IntKind.u64.wrap z = z := by
  rw [IntKind.wrap_u64]
  have h1 := h.1
  have h2 := h.2
  omega
theorem wrap_byte {z : Int} (h : fitB z 256) : IntKind.u8.wrap z = z := by
  have h1 := h.1
  have h2 := h.2
  simp [IntKind.wrap, IntKind.signed, IntKind.bits]
  omega
/-- where the bytes are put together -/
structure YW (w W : World) (v : Value) (D : List UInt8) (K : Nat) : Prop where
  b : Below w.heap.size w W
  o : W.ownsRow w.heap.size 5 1 v D.length (bytesV D)
  l : D.length ≤ K
theorem YW.below {w W W' : World} {v : Value} {D : List UInt8} {K : Nat} (h : YW w W v D K) (hb : Below W.heap.size W W') : YW w W' v D K := ⟨h.b.trans (hb.mono h.b.size), own_below h.o hb, h.l⟩
theorem YW.app {w W W' : World} {v v' : Value} {D E : List UInt8} {K n : Nat} (h : YW w W v D K) (ho : W'.ownsRow w.heap.size 5 1 v' (D.length + n) (bytesV D ++ bytesV E)) (hg : W.grownBy W' v.ownBlock) (k : Nat) (hk : E.length = k) (hn : n = E.length := by rfl) : YW w W' v' (D ++ E) (K + k) := by
  refine ⟨h.b.grown hg h.b.size (fun b hb => (h.o.lt b hb).1), ?_, by rw [List.length_append]; have := h.l; omega⟩
  rw [List.length_append, bytesV_append, ← hn]
  exact ho
theorem YW.grown {w W W' : World} {v v' : Value} {D E : List UInt8} {K : Nat} (h : YW w W v D K) (ho : W'.ownsRow w.heap.size 5 1 v' (D ++ E).length (bytesV (D ++ E))) (hg : W.grownBy W' v.ownBlock) (k : Nat) (hk : E.length = k) : YW w W' v' (D ++ E) (K + k) :=
  ⟨h.b.grown hg h.b.size (fun b hb => (h.o.lt b hb).1), ho, by rw [List.length_append]; have := h.l; omega⟩
theorem YW.row {w W W' : World} {v : Value} {D : List UInt8} {K : Nat} (h : YW w W v D K) (hg : W.grownBy W' v.ownBlock) {g : Nat} {cs : Array Value} {t : TypeId} {fr : Nat × Nat} (hr : W.heap[g]? = some (.cells cs t fr)) (ht : 5 ≠ t) : W'.heap[g]? = some (.cells cs t fr) :=
  (hg.block g (block_lt hr) (own_ne h.o hr ht)).trans hr
theorem lits_len : ∀ zs : List Int, (zs.flatMap fun z => Wire.be z.toNat 1).length = zs.length
  | [] => rfl
  | z :: zs => by rw [List.flatMap_cons, List.length_append, lits_len zs, Wire.be_length, List.length_cons]; omega
theorem YW.as {w W : World} {v : Value} {D D' : List UInt8} {K K' : Nat} (h : YW w W v D K) (hd : D = D') (hk : K ≤ K') : YW w W v D' K' := by
  subst hd
  exact ⟨h.b, h.o, Nat.le_trans h.l hk⟩
theorem bs_lits {W : World} {g : Nat} {cs : Array Value} (hr : W.heap[g]? = some (.cells cs 5 (0, 0))) (zs : List Int) (hm : zs.length ≤ 1000) (hz : ∀ z ∈ zs, fitB z 256) (hc : cs = (zs.map (Value.int .u8)).toArray) : BS W (.slice (some ⟨g, 0, none⟩) zs.length zs.length) (zs.flatMap fun z => Wire.be z.toNat 1) := by
  have e : bytesV (zs.flatMap fun z => Wire.be z.toNat 1) = zs.map (Value.int .u8) := by
    clear hr hc hm
    induction zs with
    | nil => rfl
    | cons z zs ih =>
      rw [List.flatMap_cons, bytesV_append, ih (fun y hy => hz y (by simp [hy]))]
      have h1 := hz z (by simp)
      have h2 : Wire.be z.toNat 1 = [UInt8.ofNat (z.toNat % 256)] := rfl
      rw [h2]
      have h3 : ((UInt8.ofNat (z.toNat % 256)).toNat : Int) = z := by
        rw [UInt8.toNat_ofNat']
        have := h1.1
        have := h1.2
        omega
      show (Value.int .u8 ((UInt8.ofNat (z.toNat % 256)).toNat : Int)) :: _ = _
      rw [h3]
      rfl
  refine BS.of_own (base := 0) (e := 5) (n := zs.length) ⟨by rw [e]; simp, .inr ⟨g, zs.length, cs, rfl, Nat.zero_le _, hr, Nat.le_refl _, by unfold maxLen; omega, by rw [hc]; simp, ?_⟩⟩
  rw [hc, e, Nat.mul_one, List.toList_toArray, List.take_of_length_le (by simp)]
theorem step_append_bytesT {ops : Array Oper} {o : Oper} {a : Act} {K : Act → World → Prop} {Q : Exit → Act → World → Prop} {E : Prop} {w : World} (hgd : o.guard = none) (s x : Operand)
    (ho : o.op = .call { callee := .builtin .append, args := #[s, x], argTypes := #[38, 38] }) (base : Nat) (v : Value) (n : Nat) (xs : List Value) (hs : a.eval s = v) (hown : w.ownsRow base 5 1 v n xs)
    (y : Value) (l : List UInt8) (hx : a.eval x = y) (hb : BS w y l) (hn : n + l.length ≤ 1099511627776) (hbase : base ≤ w.heap.size)
    (h : ∀ v' w', w'.ownsRow base 5 1 v' (n + l.length) (xs ++ bytesV l) → w.grownBy w' v.ownBlock → K (a.put o.dst v') w') :
    if Region.wanted o (yielded ops a.tmps) = true then Oper.wp Tryd.prog o a w K Q else E := by
  have hw : Region.wanted o (yielded ops a.tmps) = true := by simp [Region.wanted, hgd]
  rw [if_pos hw]
  obtain ⟨v', w', hr, g1, g2, _, _⟩ := run_append_bytes w base o.type v n xs hown y l hb hn hbase
  exact Lib.wp_append_run w s x _ _ ho v _ hs hx v' w' hr (h v' w' g1 g2)
theorem kept_put {W W' : World} {base n : Nat} {v : Value} {xs : List Value} (ho : W.ownsRow base 5 1 v n xs) (hg : W.grownBy W' v.ownBlock) : Kept [5] W W' :=
  ⟨hg.size, fun i cs t fr hi ht => row_put ho hg hi (fun e => ht (by rw [e]; exact .head _))⟩
def fl16 (fl dy va : Int) : List UInt8 := (Wire.be fl.toNat 2 ++ Wire.be dy.toNat 4) ++ Wire.be va.toNat 8
set_option maxRecDepth 4000 in
set_option maxHeartbeats 2000000 in
theorem flight16_any (base : Nat) (v : Value) (L : List UInt8) (fl dy va st ho nx : Int) (hL : L.length ≤ 900) (f1 : fitB fl 65536) (f2 : fitB dy 4294967296) (f3 : fitB va 18446744073709551616) (w : World) (hbase : base ≤ w.heap.size) (hown : w.ownsRow base 5 1 v L.length (bytesV L)) :
    Calls Tryd.prog 113 #[v, .agg #[.int .i64 fl, .int .i64 dy, .int .i64 va, .int .i64 st, .int .i64 ho, .int .u64 nx]] w fun e w' => ∃ u, e = .returned u ∧ w'.ownsRow base 5 1 u (L ++ fl16 fl dy va).length (bytesV (L ++ fl16 fl dy va)) ∧ Below base w w' ∧ Kept [5] w w' := by
  have z1 := wrap_fit f1 (by decide)
  have z2 := wrap_fit f2 (by decide)
  have z3 := wrap_fit f3 (by decide)
  have hb0 := (Below.refl w.heap.size w).alloc (Nat.le_refl _) (.cells #[.int .i64 fl, .int .i64 dy, .int .i64 va, .int .i64 st, .int .i64 ho, .int .u64 nx] 27)
  have hrw := new_rowW w (.cells #[.int .i64 fl, .int .i64 dy, .int .i64 va, .int .i64 st, .int .i64 ho, .int .u64 nx] 27) _ rfl
  have ho0 := own_below hown hb0
  have hk : Kept [5] w (w.alloc (.cells #[.int .i64 fl, .int .i64 dy, .int .i64 va, .int .i64 st, .int .i64 ho, .int .u64 nx] 27)) := Kept.of_below hb0
  have hb := hb0.mono hbase
  have hbz := Nat.le_trans hbase hb0.size
  have hl1 : (L ++ Wire.be fl.toNat 2).length ≤ 1000 := by rw [List.length_append, Wire.be_length]; omega
  have hl2 : (L ++ Wire.be fl.toNat 2 ++ Wire.be dy.toNat 4).length ≤ 1000 := by rw [List.length_append, List.length_append, Wire.be_length, Wire.be_length]; omega
  have HFL : Hid (L ++ fl16 fl dy va = L ++ Wire.be fl.toNat 2 ++ Wire.be dy.toNat 4 ++ Wire.be va.toNat 8) := Lib.hid (by unfold fl16; simp only [List.append_assoc])
  clear hb0 hown
  go_enter Tryd.func113, Tryd.ntmps113
  go_wp2_with fail
  generalize w.alloc (.cells #[.int .i64 fl, .int .i64 dy, .int .i64 va, .int .i64 st, .int .i64 ho, .int .u64 nx] 27) = W0 at *
  have hc0 := fun j => cell_of_row W0 w.heap.size j _ _ _ hrw
  have hb := hb.drew
  have hk : Kept [5] w W0.drew := hk.trans (Kept.of_below (Below.refl _ _).drew)
  have ho0 := own_below ho0 (Below.refl _ _).drew
  have hbz : base ≤ W0.drew.heap.size := hbz
  have hrw : W0.drew.heap[w.heap.size]? = _ := hrw
  go_region_held3 (fun w' => w'.cell? ⟨w.heap.size, 0, none⟩ = some (.int .i64 fl) ∧ w'.cell? ⟨w.heap.size, 1, none⟩ = some (.int .i64 dy) ∧ w'.cell? ⟨w.heap.size, 2, none⟩ = some (.int .i64 va)) (first | exact ⟨cell_of_row _ _ 0 _ _ _ hrw, cell_of_row _ _ 1 _ _ _ hrw, cell_of_row _ _ 2 _ _ _ hrw⟩ | go_keep) (first
    | (go_at_call 112; refine (put16_any base _ _ va 8 (by decide) f3 (by decide) hl2 _ hbz ho2).mono ?_; rintro e w3 ⟨u3, rfl, ho3, hg3⟩; have hrw := row_put ho2 hg3 hrw (by decide); have hb := below_put hb hbz ho2 hg3; have hk := hk.trans (kept_put ho2 hg3); have hbz := Nat.le_trans hbz hg3.size)
    | (go_at_call 112; refine (put16_any base _ _ dy 4 (by decide) f2 (by decide) hl1 _ hbz ho1).mono ?_; rintro e w2 ⟨u2, rfl, ho2, hg2⟩; have hrw := row_put ho1 hg2 hrw (by decide); have hb := below_put hb hbz ho1 hg2; have hk := hk.trans (kept_put ho1 hg2); have hbz := Nat.le_trans hbz hg2.size)
    | (go_at_call 112; refine (put16_any base _ _ fl 2 (by decide) f1 (by decide) (by omega) _ hbz ho0).mono ?_; rintro e w1 ⟨u1, rfl, ho1, hg1⟩; have hrw := row_put ho0 hg1 hrw (by decide); have hb := below_put hb hbz ho0 hg1; have hk := hk.trans (kept_put ho0 hg1); have hbz := Nat.le_trans hbz hg1.size))
  have HF := Lib.hid hb
  have HO := Lib.hid ho3
  have HK := Lib.hid hk
  clear hb ho1 ho2 ho3 hg1 hg2 hg3 hrw hk ho0 hc0
  go_wp2
  go_ret
  exact ⟨_, rfl, by rw [HFL.out]; exact HO.out, HF.out, HK.out⟩
end Go.Proofs.YtellhmbebimenaaDoor
