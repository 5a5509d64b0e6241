/- Contracts: the reference's put and Bytes (13). Contracts of the wire reference's Cut, TakeNumber and Take. Contracts of the reference's cursor (couponref13): Take, Cut. Contract: the ticket of bytes, by the reference (couponref13.Of). An argument that is a slice of bytes, read as a list. The law TicketReads. -/
import Derived.Test.YtmadkfahkbdibaaTbC
import Derived.Test.YtmadkfahkbdibaaTbB
import Derived.Lib.AppendStr
import Derived.Test.YtmadkfahkbdibaaTbA
import Derived.Deep.QuietTactic
import Derived.BigQuiet
import Derived.Test.YtmadkfahkbdibaaRec
import Derived.Test.YtmadkfahkbdibaaTrI
import Derived.Test.YtmadkfahkbdibaaTrJ
import Derived.Test.YtmadkfahkbdibaaMem
import Derived.Test.YtmadkfahkbdibaaTrD
import Derived.Test.YtmadkfahkbdibaaTrB
set_option linter.unusedVariables false
set_option linter.unusedSimpArgs false
namespace Go.Proofs.Ytmadkfahkbdibaa
open Go.RowKit

set_option maxRecDepth 4000 in
set_option maxHeartbeats 1000000 in
theorem put13n_any (base : Nat) (v : Value) (L : List UInt8) (N : Nat) (hN : N < 18446744073709551616) (s : Nat) (hs : s = 1 ∨ s = 2 ∨ s = 4 ∨ s = 8) (hfit : N < 256 ^ s) (hL : L.length ≤ 1000) (w : World) (hb : base ≤ w.heap.size) (ho : w.ownsRow base 5 1 v L.length (bytesV L)) :
    Calls Try.prog 72 #[v, .int .u64 (N : Int), .int .i64 (s : Int)] w fun e w' => ∃ u, e = .returned u ∧ w'.ownsRow base 5 1 u (L ++ Wire.be N s).length (bytesV (L ++ Wire.be N s)) ∧ w.grownBy w' v.ownBlock := by
  have HNU := Lib.hid (rNumber_any N hN (s : Int) w)
  have hp : pNum N (s : Int) = some (Wire.be N s) := by
    unfold pNum
    rw [if_pos ⟨by rcases hs with rfl | rfl | rfl | rfl <;> rfl, by rw [Int.toNat_natCast]; exact hfit⟩, Int.toNat_natCast]
  rw [hp] at HNU
  have HLB := Lib.hid (Wire.be_length N s)
  have HO := Lib.hid ho
  have HLL := Lib.hid hL
  obtain ⟨q, c, rfl⟩ := own_form ho
  clear hp hfit ho hL
  rw [show pGet (some (Wire.be N s)) = Wire.be N s from rfl, show (some (Wire.be N s)).isSome = true from rfl] at HNU
  generalize Wire.be N s = B at *
  generalize hLn : L.length = nl at *
  have HLN := Lib.hid hLn
  clear hLn
  go_enter Try.func72, Try.ntmps72
  go_wp2_with fail
  refine HNU.out.mono ?_
  rintro e w1 ⟨u, rfl, hown, hb1⟩
  have HOB := Lib.hid (BS.of_own hown)
  have HB := Lib.hid hb1
  have HO1 := Lib.hid (own_below HO.out hb1)
  obtain ⟨q1, c1, rfl⟩ := own_form hown
  clear hown hb1
  go_wp2_with (at_builtin; refine wpList_append_bytes rfl _ _ rfl base _ _ _ rfl HO1.out _ B rfl HOB.out ?c1 ?c2 ?_)
  case c1 => have := HLB.out; have := HLL.out; omega
  case c2 => have := HB.out.size; omega
  intro v2 w2 hown2 hg2 hn2 hat2
  have HG : Hid (w.grownBy w2 (Value.slice q nl c).ownBlock) := Lib.hid ⟨hg2.os.trans HB.out.os, hg2.tape.trans HB.out.tape, hg2.output.trans HB.out.output, Nat.le_trans HB.out.size hg2.size, fun k hk hne => (hg2.block k (Nat.lt_of_lt_of_le hk HB.out.size) hne).trans (HB.out.block k hk)⟩
  have HO2 : Hid (w2.ownsRow base 5 1 v2 (L ++ B).length (bytesV (L ++ B))) := Lib.hid (by rw [List.length_append, bytesV_append, HLN.out]; exact hown2)
  obtain ⟨q2, c2, rfl⟩ := own_form hown2
  clear hown2 hg2 hn2 hat2
  go_wp2
  go_ret
  exact ⟨_, rfl, by rw [List.length_append, HLN.out]; have := HO2.out; rwa [List.length_append, HLN.out] at this, HG.out⟩
theorem put13_any (base : Nat) (v : Value) (L : List UInt8) (z : Int) (s : Nat) (hs : s = 1 ∨ s = 2 ∨ s = 4 ∨ s = 8) {b : Nat} (hz : Tkt.fitN z b) (hb256 : b ≤ 256 ^ s) (hL : L.length ≤ 1000) (w : World) (hb : base ≤ w.heap.size) (ho : w.ownsRow base 5 1 v L.length (bytesV L)) :
    Calls Try.prog 72 #[v, .int .u64 z, .int .i64 (s : Int)] w fun e w' => ∃ u, e = .returned u ∧ w'.ownsRow base 5 1 u (L ++ Wire.be z.toNat s).length (bytesV (L ++ Wire.be z.toNat s)) ∧ w.grownBy w' v.ownBlock := by
  have hN : z.toNat < 256 ^ s := Nat.lt_of_lt_of_le hz.2 hb256
  have h := put13n_any base v L z.toNat (Nat.lt_of_lt_of_le hN (by rcases hs with rfl | rfl | rfl | rfl <;> decide)) s hs hN hL w hb ho
  rwa [Int.toNat_of_nonneg hz.1] at h
theorem wrap_fit {z : Int} {b : Nat} (h : Tkt.fitN z b) (hb : b ≤ 18446744073709551616) : IntKind.u64.wrap z = z := by
  rw [IntKind.wrap_u64]
  have h1 := h.1
  have h2 := h.2
  omega
theorem wrap_byte {z : Int} (h : Tkt.fitN z 256) : IntKind.u8.wrap z = z := by
  have h1 := h.1
  have h2 := h.2
  simp [IntKind.wrap, IntKind.signed, IntKind.bits]
  omega
theorem loc_size {t : Tk} (hm : Tkt.mayB t = true) : t.loc.size = 6 := by
  have h := Tkt.loc_six hm
  have h2 : t.loc.data.toList.length = t.loc.size := by
    show t.loc.data.toList.length = t.loc.data.size
    simp
  omega
/-- where the bytes are put together -/
structure YW (w W : World) (v : Value) (D : List UInt8) (K : Nat) : Prop where
  b : Below w.heap.size w W
  o : W.ownsRow w.heap.size 5 1 v D.length (bytesV D)
  l : D.length ≤ K
theorem YW.below {w W W' : World} {v : Value} {D : List UInt8} {K : Nat} (h : YW w W v D K) (hb : Below W.heap.size W W') : YW w W' v D K := ⟨h.b.trans (hb.mono h.b.size), own_below h.o hb, h.l⟩
theorem YW.app {w W W' : World} {v v' : Value} {D E : List UInt8} {K n : Nat} (h : YW w W v D K) (ho : W'.ownsRow w.heap.size 5 1 v' (D.length + n) (bytesV D ++ bytesV E)) (hg : W.grownBy W' v.ownBlock) (k : Nat) (hk : E.length = k) (hn : n = E.length := by rfl) : YW w W' v' (D ++ E) (K + k) := by
  refine ⟨h.b.grown hg h.b.size (fun b hb => (h.o.lt b hb).1), ?_, by rw [List.length_append]; have := h.l; omega⟩
  rw [List.length_append, bytesV_append, ← hn]
  exact ho
theorem YW.grown {w W W' : World} {v v' : Value} {D E : List UInt8} {K : Nat} (h : YW w W v D K) (ho : W'.ownsRow w.heap.size 5 1 v' (D ++ E).length (bytesV (D ++ E))) (hg : W.grownBy W' v.ownBlock) (k : Nat) (hk : E.length = k) : YW w W' v' (D ++ E) (K + k) :=
  ⟨h.b.grown hg h.b.size (fun b hb => (h.o.lt b hb).1), ho, by rw [List.length_append]; have := h.l; omega⟩
theorem YW.row {w W W' : World} {v : Value} {D : List UInt8} {K : Nat} (h : YW w W v D K) (hg : W.grownBy W' v.ownBlock) {g : Nat} {cs : Array Value} {t : TypeId} {fr : Nat × Nat} (hr : W.heap[g]? = some (.cells cs t fr)) (ht : 5 ≠ t) : W'.heap[g]? = some (.cells cs t fr) :=
  (hg.block g (block_lt hr) (own_ne h.o hr ht)).trans hr
theorem lits_len : ∀ zs : List Int, (zs.flatMap fun z => Wire.be z.toNat 1).length = zs.length
  | [] => rfl
  | z :: zs => by rw [List.flatMap_cons, List.length_append, lits_len zs, Wire.be_length, List.length_cons]; omega
theorem YW.as {w W : World} {v : Value} {D D' : List UInt8} {K K' : Nat} (h : YW w W v D K) (hd : D = D') (hk : K ≤ K') : YW w W v D' K' := by
  subst hd
  exact ⟨h.b, h.o, Nat.le_trans h.l hk⟩
theorem fit_len {n m : Nat} (h : n = m) (hm : m < 256) : Tkt.fitN (n : Int) 256 := ⟨by omega, by omega⟩
theorem tx_at {w W : World} {t : Tk} {c x h : Sl} (s : TS w t c x h) (hb : Below w.heap.size w W) {j : Nat} {y : Txx} (hy : t.ts[j]? = some y) {eb ef : Nat} (hp : x.p = some ⟨eb, ef, none⟩) : W.cell? ⟨eb, ef + j * 2, none⟩ = some (.int .i64 y.cd) ∧ W.cell? ⟨eb, ef + j * 2 + 1, none⟩ = some (.int .i64 y.am) := by
  obtain ⟨b, o, e, -, r⟩ := (s.below hb).ts.at hy
  rw [hp] at e
  injection e with e
  injection e with e1 e2
  subst e1 e2
  exact ⟨r 0 _ rfl, r 1 _ rfl⟩
theorem enc_end {w W : World} {v : Value} {t : Tk} {K : Nat} (h : YW w W v (((((Tkt.encH t ++ Wire.be t.cs.length 1 ++ t.cs.flatMap Tkt.encC) ++ Wire.be t.ts.length 1) ++ t.ts.flatMap Tkt.encX) ++ (Wire.be t.posts.toNat 1 ++ Wire.be t.hs.length 1)) ++ t.hs.flatMap Tkt.encE) K) : W.ownsRow w.heap.size 5 1 v (Tkt.encT t).length (bytesV (Tkt.encT t)) := by
  have e : (((((Tkt.encH t ++ Wire.be t.cs.length 1 ++ t.cs.flatMap Tkt.encC) ++ Wire.be t.ts.length 1) ++ t.ts.flatMap Tkt.encX) ++ (Wire.be t.posts.toNat 1 ++ Wire.be t.hs.length 1)) ++ t.hs.flatMap Tkt.encE) = Tkt.encT t := by
    unfold Tkt.encT
    simp only [List.append_assoc]
  rw [← e]
  exact h.o
theorem bs_lits {W : World} {g : Nat} {cs : Array Value} (hr : W.heap[g]? = some (.cells cs 5 (0, 0))) (zs : List Int) (hm : zs.length ≤ 1000) (hz : ∀ z ∈ zs, Tkt.fitN z 256) (hc : cs = (zs.map (Value.int .u8)).toArray) : BS W (.slice (some ⟨g, 0, none⟩) zs.length zs.length) (zs.flatMap fun z => Wire.be z.toNat 1) := by
  have e : bytesV (zs.flatMap fun z => Wire.be z.toNat 1) = zs.map (Value.int .u8) := by
    clear hr hc hm
    induction zs with
    | nil => rfl
    | cons z zs ih =>
      rw [List.flatMap_cons, bytesV_append, ih (fun y hy => hz y (by simp [hy]))]
      have h1 := hz z (by simp)
      have h2 : Wire.be z.toNat 1 = [UInt8.ofNat (z.toNat % 256)] := rfl
      rw [h2]
      have h3 : ((UInt8.ofNat (z.toNat % 256)).toNat : Int) = z := by
        rw [UInt8.toNat_ofNat']
        have := h1.1
        have := h1.2
        omega
      show (Value.int .u8 ((UInt8.ofNat (z.toNat % 256)).toNat : Int)) :: _ = _
      rw [h3]
      rfl
  refine BS.of_own (base := 0) (e := 5) (n := zs.length) ⟨by rw [e]; simp, .inr ⟨g, zs.length, cs, rfl, Nat.zero_le _, hr, Nat.le_refl _, by unfold maxLen; omega, by rw [hc]; simp, ?_⟩⟩
  rw [hc, e, Nat.mul_one, List.toList_toArray, List.take_of_length_le (by simp)]
theorem step_append_bytesT {ops : Array Oper} {o : Oper} {a : Act} {K : Act → World → Prop} {Q : Exit → Act → World → Prop} {E : Prop} {w : World} (hgd : o.guard = none) (s x : Operand)
    (ho : o.op = .call { callee := .builtin .append, args := #[s, x], argTypes := #[52, 52] }) (base : Nat) (v : Value) (n : Nat) (xs : List Value) (hs : a.eval s = v) (hown : w.ownsRow base 5 1 v n xs)
    (y : Value) (l : List UInt8) (hx : a.eval x = y) (hb : BS w y l) (hn : n + l.length ≤ 1099511627776) (hbase : base ≤ w.heap.size)
    (h : ∀ v' w', w'.ownsRow base 5 1 v' (n + l.length) (xs ++ bytesV l) → w.grownBy w' v.ownBlock → K (a.put o.dst v') w') :
    if Region.wanted o (yielded ops a.tmps) = true then Oper.wp Try.prog o a w K Q else E := by
  have hw : Region.wanted o (yielded ops a.tmps) = true := by simp [Region.wanted, hgd]
  rw [if_pos hw]
  obtain ⟨v', w', hr, g1, g2, _, _⟩ := run_append_bytes w base o.type v n xs hown y l hb hn hbase
  exact Lib.wp_append_run w s x _ _ ho v _ hs hx v' w' hr (h v' w' g1 g2)
theorem strCells_bytes (s : ByteArray) : Lib.strCells s = bytesV s.data.toList := rfl
theorem step_append_strT {ops : Array Oper} {o : Oper} {a : Act} {K : Act → World → Prop} {Q : Exit → Act → World → Prop} {E : Prop} {w : World} (hgd : o.guard = none) (s x : Operand)
    (ho : o.op = .call { callee := .builtin .append, args := #[s, x], argTypes := #[52, 9] }) (base : Nat) (v : Value) (n : Nat) (xs : List Value) (hs : a.eval s = v) (hown : w.ownsRow base 5 1 v n xs)
    (l : ByteArray) (hx : a.eval x = .string l) (hn : n + l.size ≤ 1099511627776) (hbase : base ≤ w.heap.size)
    (h : ∀ v' w', w'.ownsRow base 5 1 v' (n + l.size) (xs ++ bytesV l.data.toList) → w.grownBy w' v.ownBlock → K (a.put o.dst v') w') :
    if Region.wanted o (yielded ops a.tmps) = true then Oper.wp Try.prog o a w K Q else E := by
  have hw : Region.wanted o (yielded ops a.tmps) = true := by simp [Region.wanted, hgd]
  rw [if_pos hw]
  obtain ⟨i0, hi0, hi1, hi2, hi3⟩ := byte_info
  obtain ⟨v', w', hr, g1, g2, -⟩ := Lib.run_append_own_string (P := Try.prog) w base 52 9 o.type 5 i0 Try.underlying52 Try.underlying9 hi0 hi1 hi2 hi3 v n xs hown l (by unfold maxLen; omega) (by omega) hbase
  exact Lib.wp_append_run w s x _ _ ho v _ hs hx v' w' hr (h v' w' g1 g2)
attribute [local go_sem ↓] Cp_execLoad Cp_execStore Ev_execLoad Ev_execStore
attribute [local go_sem] Cp_load Cp_store Ev_load Ev_store loL_drew okL_drew there_sc World.there_drew
set_option maxRecDepth 8000 in
set_option maxHeartbeats 8000000 in
theorem rbytes13_any (t : Tk) (c x h : Sl) (w : World) (ts : TS w t c x h) (hm : Tkt.mayB t = true) : Calls Try.prog 23 #[.agg #[.int .u64 t.num, .string t.loc, .int .i64 t.iss, .slice c.p c.n c.c, .slice x.p x.n x.c, .int .u64 t.prev, .int .u64 t.org, .int .u64 t.fst, .int .i64 t.vou, .int .i64 t.posts, .slice h.p h.n h.c]] w fun e w' => ∃ v, e = .returned v ∧ w'.ownsRow w.heap.size 5 1 v (Tkt.encT t).length (bytesV (Tkt.encT t)) ∧ Below w.heap.size w w' := by
  have HTS := Lib.hid ts
  have FT := Lib.hid (Tkt.fits_of hm ts.wf)
  have HML := Lib.hid (Tkt.mayB_lens hm)
  have HL6L := Lib.hid (Tkt.loc_six hm)
  have HL6 : Hid (t.loc.size = 6) := Lib.hid (loc_size hm)
  have HY : Hid (YW w (w.alloc (.cells #[.int .u64 t.num, .string t.loc, .int .i64 t.iss, .slice c.p c.n c.c, .slice x.p x.n x.c, .int .u64 t.prev, .int .u64 t.org, .int .u64 t.fst, .int .i64 t.vou, .int .i64 t.posts, .slice h.p h.n h.c] 27 (0, 0))) (.slice none 0 0) [] 0) := Lib.hid ⟨(Below.refl w.heap.size w).alloc (Nat.le_refl _) _, World.ownsRow_nil _ _ _ _, Nat.le_refl _⟩
  have HR := Lib.hid (new_rowW w (.cells #[.int .u64 t.num, .string t.loc, .int .i64 t.iss, .slice c.p c.n c.c, .slice x.p x.n x.c, .int .u64 t.prev, .int .u64 t.org, .int .u64 t.fst, .int .i64 t.vou, .int .i64 t.posts, .slice h.p h.n h.c] 27 (0, 0)) _ rfl)
  have kiss : IntKind.u64.wrap t.iss = t.iss := wrap_fit FT.out.iss (by decide)
  have kvou : IntKind.u64.wrap t.vou = t.vou := wrap_fit FT.out.vou (by decide)
  have hcn := ts.cs.length.1; have hxn := ts.ts.length.1; have hhn := ts.hs.length.1
  have HCN := Lib.hid hcn; have HXN := Lib.hid hxn; have HHN := Lib.hid hhn
  clear ts hm hcn hxn hhn
  go_enter Try.func23, Try.ntmps23
  go_wp2_with fail
  generalize w.alloc (.cells #[.int .u64 t.num, .string t.loc, .int .i64 t.iss, .slice c.p c.n c.c, .slice x.p x.n x.c, .int .u64 t.prev, .int .u64 t.org, .int .u64 t.fst, .int .i64 t.vou, .int .i64 t.posts, .slice h.p h.n h.c] 27 (0, 0)) = w1 at *
  refine wp_region_G (C := fun W => (∀ j : Nat, W.cell? ⟨w.heap.size, j, none⟩ = (#[.int .u64 t.num, .string t.loc, .int .i64 t.iss, .slice c.p c.n c.c, .slice x.p x.n x.c, .int .u64 t.prev, .int .u64 t.org, .int .u64 t.fst, .int .i64 t.vou, .int .i64 t.posts, .slice h.p h.n h.c] : Array Value)[j]?)) (s0 := 5) (by kernel_rfl) ?_
  have HY := Lib.hid (HY.out.below (Below.refl _ _).drew)
  have HR := Lib.hid (row_drewT HR.out)
  generalize w1.drew = wd at *
  have hHeld := (show (∀ j : Nat, wd.cell? ⟨w.heap.size, j, none⟩ = (#[.int .u64 t.num, .string t.loc, .int .i64 t.iss, .slice c.p c.n c.c, .slice x.p x.n x.c, .int .u64 t.prev, .int .u64 t.org, .int .u64 t.fst, .int .i64 t.vou, .int .i64 t.posts, .slice h.p h.n h.c] : Array Value)[j]?) from fun j => cell_of_row wd w.heap.size j _ _ _ HR.out)
  refine wpAnyG_takeU (i := 0) (oi := { dst := some 9, op := Op.fieldAddr 27 (Operand.tmp 1) 0, type := 0, pos := "ref.go:132", after := #[], guard := none }) (v := ?_) rfl (by kernel_rfl) (by kernel_rfl) (by kernel_rfl) (by decide) (fun _ _ _ h => h) (Or.inl ⟨by rfl, ?_⟩) (.inl (by assumption)) ?_
  rotate_left
  · intro w hSw; go_simp; try with_reducible rfl
  try simp only [Act.put, List.setIfInBounds_toArray, List.set_cons_zero, List.set_cons_succ]
  refine wpAnyG_takeM (i := 1) (oi := { dst := some 10, op := Op.load 22 (Operand.tmp 9), type := 22, pos := "ref.go:132", after := #[{ on := 0, ground := Ground.data }], guard := none }) (v := ?_) (ms := [2, 5, 6]) rfl (by kernel_rfl) (by kernel_rfl) (by kernel_rfl) (by kernel_rfl) (by kernel_rfl) (fun _ _ _ h => h) (Or.inl ⟨by rfl, ?_⟩) (by assumption) ?_
  rotate_left
  · intro w hSw; (try dsimp only at hSw); go_simp; try with_reducible rfl
  try simp only [Act.put, List.setIfInBounds_toArray, List.set_cons_zero, List.set_cons_succ]
  refine wpAnyG_takeU (i := 3) (oi := { dst := some 12, op := Op.fieldAddr 27 (Operand.tmp 1) 1, type := 0, pos := "ref.go:132", after := #[], guard := none }) (v := ?_) rfl (by kernel_rfl) (by kernel_rfl) (by kernel_rfl) (by decide) (fun _ _ _ h => h) (Or.inl ⟨by rfl, ?_⟩) (.inl (by assumption)) ?_
  rotate_left
  · intro w hSw; go_simp; try with_reducible rfl
  try simp only [Act.put, List.setIfInBounds_toArray, List.set_cons_zero, List.set_cons_succ]
  refine wpAnyG_takeM (i := 4) (oi := { dst := some 13, op := Op.load 9 (Operand.tmp 12), type := 9, pos := "ref.go:132", after := #[{ on := 3, ground := Ground.data }], guard := none }) (v := ?_) (ms := [5, 6]) rfl (by kernel_rfl) (by kernel_rfl) (by kernel_rfl) (by kernel_rfl) (by kernel_rfl) (fun _ _ _ h => h) (Or.inl ⟨by rfl, ?_⟩) (by assumption) ?_
  rotate_left
  · intro w hSw; (try dsimp only at hSw); go_simp; try with_reducible rfl
  try simp only [Act.put, List.setIfInBounds_toArray, List.set_cons_zero, List.set_cons_succ]
  refine wpAnyG_one (i := 2) (o := { dst := some 11, op := Op.call { callee := Callee.value (Operand.func 72), args := #[Operand.const (Value.slice none 0 0), Operand.tmp 10, Operand.const (Value.int IntKind.i64 8)], argTypes := #[52, 22, 3] }, type := 52, pos := "ref.go:132", after := #[{ on := 1, ground := Ground.data }], guard := none }) (by kernel_rfl) rfl (fun K hK => ?_)
  go_simp
  go_at_call 72
  refine (put13_any w.heap.size _ _ t.num 8 (by decide) FT.out.num (by decide) (by have := HY.out.l; omega) _ HY.out.b.size HY.out.o).mono ?_
  rintro e wq ⟨u, rfl, hown, hg⟩
  have HYO := HY
  have HY := Lib.hid (HYO.out.grown hown hg (8) (Wire.be_length _ _))
  have HR := Lib.hid (HYO.out.row hg HR.out (by decide))
  clear hown hg HYO
  have hHeld := (show (∀ j : Nat, wq.cell? ⟨w.heap.size, j, none⟩ = (#[.int .u64 t.num, .string t.loc, .int .i64 t.iss, .slice c.p c.n c.c, .slice x.p x.n x.c, .int .u64 t.prev, .int .u64 t.org, .int .u64 t.fst, .int .i64 t.vou, .int .i64 t.posts, .slice h.p h.n h.c] : Array Value)[j]?) from fun j => cell_of_row wq w.heap.size j _ _ _ HR.out)
  refine hK.out _ _ (.inl hHeld) ?_
  clear hK K
  try simp only [Act.put, List.setIfInBounds_toArray, List.set_cons_zero, List.set_cons_succ]
  refine wpAnyG_one (i := 5) (o := { dst := some 14, op := Op.call { callee := Callee.builtin Builtin.append, args := #[Operand.tmp 11, Operand.tmp 13], argTypes := #[52, 9] }, type := 52, pos := "ref.go:132", after := #[{ on := 2, ground := Ground.data }, { on := 4, ground := Ground.data }, { on := 2, ground := Ground.chain }], guard := none }) (by kernel_rfl) rfl (fun K hK => ?_)
  refine step_append_strT rfl _ _ rfl w.heap.size _ _ _ rfl HY.out.o _ rfl (by have := HY.out.l; have := HL6.out; omega) HY.out.b.size ?_
  intro u wq hown hg
  have HYO := HY
  have HY := Lib.hid (HYO.out.app hown hg 6 (by rw [HL6L.out]))
  have HR := Lib.hid (HYO.out.row hg HR.out (by decide))
  clear hown hg HYO
  refine hK.out _ _ (.inr rfl) ?_
  clear hK K
  try simp only [Act.put, List.setIfInBounds_toArray, List.set_cons_zero, List.set_cons_succ]
  refine wpAnyG_takeU (i := 6) (oi := { dst := some 3, op := Op.assign (Operand.tmp 14), type := 52, pos := "ref.go:132", after := #[{ on := 5, ground := Ground.data }, { on := 5, ground := Ground.chain }, { on := 0, ground := Ground.phase }, { on := 1, ground := Ground.phase }, { on := 2, ground := Ground.phase }, { on := 3, ground := Ground.phase }, { on := 4, ground := Ground.phase }, { on := 5, ground := Ground.phase }], guard := none }) (v := ?_) rfl (by kernel_rfl) (by kernel_rfl) (by kernel_rfl) (by decide) (fun _ _ _ h => h) (Or.inl ⟨by rfl, ?_⟩) (.inr rfl) ?_
  rotate_left
  · intro w hSw; go_simp; try with_reducible rfl
  try simp only [Act.put, List.setIfInBounds_toArray, List.set_cons_zero, List.set_cons_succ]
  refine wpAnyG_done (by kernel_rfl) ?_ _
  clear hHeld
  go_wp2_with fail
  refine wp_region_G (C := fun W => (∀ j : Nat, W.cell? ⟨w.heap.size, j, none⟩ = (#[.int .u64 t.num, .string t.loc, .int .i64 t.iss, .slice c.p c.n c.c, .slice x.p x.n x.c, .int .u64 t.prev, .int .u64 t.org, .int .u64 t.fst, .int .i64 t.vou, .int .i64 t.posts, .slice h.p h.n h.c] : Array Value)[j]?)) (s0 := 13) (by kernel_rfl) ?_
  have HY := Lib.hid (HY.out.below (Below.refl _ _).drew)
  have HR := Lib.hid (row_drewT HR.out)
  generalize wq.drew = wd at *
  have hHeld := (show (∀ j : Nat, wd.cell? ⟨w.heap.size, j, none⟩ = (#[.int .u64 t.num, .string t.loc, .int .i64 t.iss, .slice c.p c.n c.c, .slice x.p x.n x.c, .int .u64 t.prev, .int .u64 t.org, .int .u64 t.fst, .int .i64 t.vou, .int .i64 t.posts, .slice h.p h.n h.c] : Array Value)[j]?) from fun j => cell_of_row wd w.heap.size j _ _ _ HR.out)
  refine wpAnyG_takeU (i := 0) (oi := { dst := some 15, op := Op.move (Operand.tmp 3), type := 52, pos := "ref.go:133", after := #[], guard := none }) (v := ?_) rfl (by kernel_rfl) (by kernel_rfl) (by kernel_rfl) (by decide) (fun _ _ _ h => h) (Or.inl ⟨by rfl, ?_⟩) (.inl (by assumption)) ?_
  rotate_left
  · intro w hSw; go_simp; try with_reducible rfl
  try simp only [Act.put, List.setIfInBounds_toArray, List.set_cons_zero, List.set_cons_succ]
  refine wpAnyG_takeU (i := 1) (oi := { dst := some 16, op := Op.fieldAddr 27 (Operand.tmp 1) 2, type := 0, pos := "ref.go:133", after := #[], guard := none }) (v := ?_) rfl (by kernel_rfl) (by kernel_rfl) (by kernel_rfl) (by decide) (fun _ _ _ h => h) (Or.inl ⟨by rfl, ?_⟩) (.inl (by assumption)) ?_
  rotate_left
  · intro w hSw; go_simp; try with_reducible rfl
  try simp only [Act.put, List.setIfInBounds_toArray, List.set_cons_zero, List.set_cons_succ]
  refine wpAnyG_takeM (i := 2) (oi := { dst := some 17, op := Op.load 3 (Operand.tmp 16), type := 3, pos := "ref.go:133", after := #[{ on := 1, ground := Ground.data }], guard := none }) (v := ?_) (ms := [3, 4, 7, 10, 13, 14]) rfl (by kernel_rfl) (by kernel_rfl) (by kernel_rfl) (by kernel_rfl) (by kernel_rfl) (fun _ _ _ h => h) (Or.inl ⟨by rfl, ?_⟩) (by assumption) ?_
  rotate_left
  · intro w hSw; (try dsimp only at hSw); go_simp; try with_reducible rfl
  try simp only [Act.put, List.setIfInBounds_toArray, List.set_cons_zero, List.set_cons_succ]
  refine wpAnyG_takeU (i := 3) (oi := { dst := some 18, op := Op.convert 3 22 (Operand.tmp 17), type := 22, pos := "ref.go:133", after := #[{ on := 2, ground := Ground.data }], guard := none }) (v := ?_) rfl (by kernel_rfl) (by kernel_rfl) (by kernel_rfl) (by decide) (fun _ _ _ h => h) (Or.inl ⟨by rfl, ?_⟩) (.inl (by assumption)) ?_
  rotate_left
  · intro w hSw; go_simp; try with_reducible rfl
  try simp only [Act.put, List.setIfInBounds_toArray, List.set_cons_zero, List.set_cons_succ]
  refine wpAnyG_takeU (i := 5) (oi := { dst := some 20, op := Op.fieldAddr 27 (Operand.tmp 1) 5, type := 0, pos := "ref.go:133", after := #[], guard := none }) (v := ?_) rfl (by kernel_rfl) (by kernel_rfl) (by kernel_rfl) (by decide) (fun _ _ _ h => h) (Or.inl ⟨by rfl, ?_⟩) (.inl (by assumption)) ?_
  rotate_left
  · intro w hSw; go_simp; try with_reducible rfl
  try simp only [Act.put, List.setIfInBounds_toArray, List.set_cons_zero, List.set_cons_succ]
  refine wpAnyG_takeM (i := 6) (oi := { dst := some 21, op := Op.load 22 (Operand.tmp 20), type := 22, pos := "ref.go:133", after := #[{ on := 5, ground := Ground.data }], guard := none }) (v := ?_) (ms := [7, 10, 13, 14]) rfl (by kernel_rfl) (by kernel_rfl) (by kernel_rfl) (by kernel_rfl) (by kernel_rfl) (fun _ _ _ h => h) (Or.inl ⟨by rfl, ?_⟩) (by assumption) ?_
  rotate_left
  · intro w hSw; (try dsimp only at hSw); go_simp; try with_reducible rfl
  try simp only [Act.put, List.setIfInBounds_toArray, List.set_cons_zero, List.set_cons_succ]
  refine wpAnyG_takeU (i := 8) (oi := { dst := some 23, op := Op.fieldAddr 27 (Operand.tmp 1) 6, type := 0, pos := "ref.go:133", after := #[], guard := none }) (v := ?_) rfl (by kernel_rfl) (by kernel_rfl) (by kernel_rfl) (by decide) (fun _ _ _ h => h) (Or.inl ⟨by rfl, ?_⟩) (.inl (by assumption)) ?_
  rotate_left
  · intro w hSw; go_simp; try with_reducible rfl
  try simp only [Act.put, List.setIfInBounds_toArray, List.set_cons_zero, List.set_cons_succ]
  refine wpAnyG_takeM (i := 9) (oi := { dst := some 24, op := Op.load 22 (Operand.tmp 23), type := 22, pos := "ref.go:133", after := #[{ on := 8, ground := Ground.data }], guard := none }) (v := ?_) (ms := [10, 13, 14]) rfl (by kernel_rfl) (by kernel_rfl) (by kernel_rfl) (by kernel_rfl) (by kernel_rfl) (fun _ _ _ h => h) (Or.inl ⟨by rfl, ?_⟩) (by assumption) ?_
  rotate_left
  · intro w hSw; (try dsimp only at hSw); go_simp; try with_reducible rfl
  try simp only [Act.put, List.setIfInBounds_toArray, List.set_cons_zero, List.set_cons_succ]
  refine wpAnyG_takeU (i := 11) (oi := { dst := some 26, op := Op.fieldAddr 27 (Operand.tmp 1) 7, type := 0, pos := "ref.go:133", after := #[], guard := none }) (v := ?_) rfl (by kernel_rfl) (by kernel_rfl) (by kernel_rfl) (by decide) (fun _ _ _ h => h) (Or.inl ⟨by rfl, ?_⟩) (.inl (by assumption)) ?_
  rotate_left
  · intro w hSw; go_simp; try with_reducible rfl
  try simp only [Act.put, List.setIfInBounds_toArray, List.set_cons_zero, List.set_cons_succ]
  refine wpAnyG_takeM (i := 12) (oi := { dst := some 27, op := Op.load 22 (Operand.tmp 26), type := 22, pos := "ref.go:133", after := #[{ on := 11, ground := Ground.data }], guard := none }) (v := ?_) (ms := [13, 14]) rfl (by kernel_rfl) (by kernel_rfl) (by kernel_rfl) (by kernel_rfl) (by kernel_rfl) (fun _ _ _ h => h) (Or.inl ⟨by rfl, ?_⟩) (by assumption) ?_
  rotate_left
  · intro w hSw; (try dsimp only at hSw); go_simp; try with_reducible rfl
  try simp only [Act.put, List.setIfInBounds_toArray, List.set_cons_zero, List.set_cons_succ]
  refine wpAnyG_one (i := 4) (o := { dst := some 19, op := Op.call { callee := Callee.value (Operand.func 72), args := #[Operand.tmp 15, Operand.tmp 18, Operand.const (Value.int IntKind.i64 4)], argTypes := #[52, 22, 3] }, type := 52, pos := "ref.go:133", after := #[{ on := 0, ground := Ground.data }, { on := 3, ground := Ground.data }], guard := none }) (by kernel_rfl) rfl (fun K hK => ?_)
  go_simp
  go_at_call 72
  refine (put13_any w.heap.size _ _ t.iss 4 (by decide) FT.out.iss (by decide) (by have := HY.out.l; omega) _ HY.out.b.size HY.out.o).mono ?_
  rintro e wq ⟨u, rfl, hown, hg⟩
  have HYO := HY
  have HY := Lib.hid (HYO.out.grown hown hg (4) (Wire.be_length _ _))
  have HR := Lib.hid (HYO.out.row hg HR.out (by decide))
  clear hown hg HYO
  have hHeld := (show (∀ j : Nat, wq.cell? ⟨w.heap.size, j, none⟩ = (#[.int .u64 t.num, .string t.loc, .int .i64 t.iss, .slice c.p c.n c.c, .slice x.p x.n x.c, .int .u64 t.prev, .int .u64 t.org, .int .u64 t.fst, .int .i64 t.vou, .int .i64 t.posts, .slice h.p h.n h.c] : Array Value)[j]?) from fun j => cell_of_row wq w.heap.size j _ _ _ HR.out)
  refine hK.out _ _ (.inl hHeld) ?_
  clear hK K
  try simp only [Act.put, List.setIfInBounds_toArray, List.set_cons_zero, List.set_cons_succ]
  refine wpAnyG_one (i := 7) (o := { dst := some 22, op := Op.call { callee := Callee.value (Operand.func 72), args := #[Operand.tmp 19, Operand.tmp 21, Operand.const (Value.int IntKind.i64 8)], argTypes := #[52, 22, 3] }, type := 52, pos := "ref.go:133", after := #[{ on := 4, ground := Ground.data }, { on := 6, ground := Ground.data }, { on := 4, ground := Ground.chain }], guard := none }) (by kernel_rfl) rfl (fun K hK => ?_)
  go_simp
  go_at_call 72
  refine (put13_any w.heap.size _ _ t.prev 8 (by decide) FT.out.prev (by decide) (by have := HY.out.l; omega) _ HY.out.b.size HY.out.o).mono ?_
  rintro e wq ⟨u, rfl, hown, hg⟩
  have HYO := HY
  have HY := Lib.hid (HYO.out.grown hown hg (8) (Wire.be_length _ _))
  have HR := Lib.hid (HYO.out.row hg HR.out (by decide))
  clear hown hg HYO
  have hHeld := (show (∀ j : Nat, wq.cell? ⟨w.heap.size, j, none⟩ = (#[.int .u64 t.num, .string t.loc, .int .i64 t.iss, .slice c.p c.n c.c, .slice x.p x.n x.c, .int .u64 t.prev, .int .u64 t.org, .int .u64 t.fst, .int .i64 t.vou, .int .i64 t.posts, .slice h.p h.n h.c] : Array Value)[j]?) from fun j => cell_of_row wq w.heap.size j _ _ _ HR.out)
  refine hK.out _ _ (.inl hHeld) ?_
  clear hK K
  try simp only [Act.put, List.setIfInBounds_toArray, List.set_cons_zero, List.set_cons_succ]
  refine wpAnyG_one (i := 10) (o := { dst := some 25, op := Op.call { callee := Callee.value (Operand.func 72), args := #[Operand.tmp 22, Operand.tmp 24, Operand.const (Value.int IntKind.i64 8)], argTypes := #[52, 22, 3] }, type := 52, pos := "ref.go:133", after := #[{ on := 7, ground := Ground.data }, { on := 9, ground := Ground.data }, { on := 7, ground := Ground.chain }], guard := none }) (by kernel_rfl) rfl (fun K hK => ?_)
  go_simp
  go_at_call 72
  refine (put13_any w.heap.size _ _ t.org 8 (by decide) FT.out.org (by decide) (by have := HY.out.l; omega) _ HY.out.b.size HY.out.o).mono ?_
  rintro e wq ⟨u, rfl, hown, hg⟩
  have HYO := HY
  have HY := Lib.hid (HYO.out.grown hown hg (8) (Wire.be_length _ _))
  have HR := Lib.hid (HYO.out.row hg HR.out (by decide))
  clear hown hg HYO
  have hHeld := (show (∀ j : Nat, wq.cell? ⟨w.heap.size, j, none⟩ = (#[.int .u64 t.num, .string t.loc, .int .i64 t.iss, .slice c.p c.n c.c, .slice x.p x.n x.c, .int .u64 t.prev, .int .u64 t.org, .int .u64 t.fst, .int .i64 t.vou, .int .i64 t.posts, .slice h.p h.n h.c] : Array Value)[j]?) from fun j => cell_of_row wq w.heap.size j _ _ _ HR.out)
  refine hK.out _ _ (.inl hHeld) ?_
  clear hK K
  try simp only [Act.put, List.setIfInBounds_toArray, List.set_cons_zero, List.set_cons_succ]
  refine wpAnyG_one (i := 13) (o := { dst := some 28, op := Op.call { callee := Callee.value (Operand.func 72), args := #[Operand.tmp 25, Operand.tmp 27, Operand.const (Value.int IntKind.i64 8)], argTypes := #[52, 22, 3] }, type := 52, pos := "ref.go:133", after := #[{ on := 10, ground := Ground.data }, { on := 12, ground := Ground.data }, { on := 10, ground := Ground.chain }], guard := none }) (by kernel_rfl) rfl (fun K hK => ?_)
  go_simp
  go_at_call 72
  refine (put13_any w.heap.size _ _ t.fst 8 (by decide) FT.out.fst (by decide) (by have := HY.out.l; omega) _ HY.out.b.size HY.out.o).mono ?_
  rintro e wq ⟨u, rfl, hown, hg⟩
  have HYO := HY
  have HY := Lib.hid (HYO.out.grown hown hg (8) (Wire.be_length _ _))
  have HR := Lib.hid (HYO.out.row hg HR.out (by decide))
  clear hown hg HYO
  refine hK.out _ _ (.inr rfl) ?_
  clear hK K
  try simp only [Act.put, List.setIfInBounds_toArray, List.set_cons_zero, List.set_cons_succ]
  refine wpAnyG_takeU (i := 14) (oi := { dst := some 3, op := Op.assign (Operand.tmp 28), type := 52, pos := "ref.go:133", after := #[{ on := 13, ground := Ground.data }, { on := 13, ground := Ground.chain }, { on := 0, ground := Ground.phase }, { on := 1, ground := Ground.phase }, { on := 2, ground := Ground.phase }, { on := 3, ground := Ground.phase }, { on := 4, ground := Ground.phase }, { on := 5, ground := Ground.phase }, { on := 6, ground := Ground.phase }, { on := 7, ground := Ground.phase }, { on := 8, ground := Ground.phase }, { on := 9, ground := Ground.phase }, { on := 10, ground := Ground.phase }, { on := 11, ground := Ground.phase }, { on := 12, ground := Ground.phase }, { on := 13, ground := Ground.phase }], guard := none }) (v := ?_) rfl (by kernel_rfl) (by kernel_rfl) (by kernel_rfl) (by decide) (fun _ _ _ h => h) (Or.inl ⟨by rfl, ?_⟩) (.inr rfl) ?_
  rotate_left
  · intro w hSw; go_simp; try with_reducible rfl
  try simp only [Act.put, List.setIfInBounds_toArray, List.set_cons_zero, List.set_cons_succ]
  refine wpAnyG_done (by kernel_rfl) ?_ _
  clear hHeld
  have kcn : IntKind.u8.wrap (c.n : Int) = (c.n : Int) := wrap_byte (fit_len HCN.out (by have := HML.out; omega))
  have HFC : Hid (Tkt.fitN (c.n : Int) 256) := Lib.hid (fit_len HCN.out (by have := HML.out; omega))
  go_wp2_with fail
  refine wp_region_G (C := fun W => (∀ j : Nat, W.cell? ⟨w.heap.size, j, none⟩ = (#[.int .u64 t.num, .string t.loc, .int .i64 t.iss, .slice c.p c.n c.c, .slice x.p x.n x.c, .int .u64 t.prev, .int .u64 t.org, .int .u64 t.fst, .int .i64 t.vou, .int .i64 t.posts, .slice h.p h.n h.c] : Array Value)[j]?)) (s0 := 10) (by kernel_rfl) ?_
  have HY := Lib.hid (HY.out.below (Below.refl _ _).drew)
  have HR := Lib.hid (row_drewT HR.out)
  generalize wq.drew = wd at *
  have hHeld := (show (∀ j : Nat, wd.cell? ⟨w.heap.size, j, none⟩ = (#[.int .u64 t.num, .string t.loc, .int .i64 t.iss, .slice c.p c.n c.c, .slice x.p x.n x.c, .int .u64 t.prev, .int .u64 t.org, .int .u64 t.fst, .int .i64 t.vou, .int .i64 t.posts, .slice h.p h.n h.c] : Array Value)[j]?) from fun j => cell_of_row wd w.heap.size j _ _ _ HR.out)
  refine wpAnyG_takeU (i := 0) (oi := { dst := some 29, op := Op.move (Operand.tmp 3), type := 52, pos := "ref.go:134", after := #[], guard := none }) (v := ?_) rfl (by kernel_rfl) (by kernel_rfl) (by kernel_rfl) (by decide) (fun _ _ _ h => h) (Or.inl ⟨by rfl, ?_⟩) (.inl (by assumption)) ?_
  rotate_left
  · intro w hSw; go_simp; try with_reducible rfl
  try simp only [Act.put, List.setIfInBounds_toArray, List.set_cons_zero, List.set_cons_succ]
  refine wpAnyG_takeU (i := 1) (oi := { dst := some 30, op := Op.fieldAddr 27 (Operand.tmp 1) 8, type := 0, pos := "ref.go:134", after := #[], guard := none }) (v := ?_) rfl (by kernel_rfl) (by kernel_rfl) (by kernel_rfl) (by decide) (fun _ _ _ h => h) (Or.inl ⟨by rfl, ?_⟩) (.inl (by assumption)) ?_
  rotate_left
  · intro w hSw; go_simp; try with_reducible rfl
  try simp only [Act.put, List.setIfInBounds_toArray, List.set_cons_zero, List.set_cons_succ]
  refine wpAnyG_takeM (i := 2) (oi := { dst := some 31, op := Op.load 2 (Operand.tmp 30), type := 2, pos := "ref.go:134", after := #[{ on := 1, ground := Ground.data }], guard := none }) (v := ?_) (ms := [3, 4, 10, 11]) rfl (by kernel_rfl) (by kernel_rfl) (by kernel_rfl) (by kernel_rfl) (by kernel_rfl) (fun _ _ _ h => h) (Or.inl ⟨by rfl, ?_⟩) (by assumption) ?_
  rotate_left
  · intro w hSw; (try dsimp only at hSw); go_simp; try with_reducible rfl
  try simp only [Act.put, List.setIfInBounds_toArray, List.set_cons_zero, List.set_cons_succ]
  refine wpAnyG_takeU (i := 3) (oi := { dst := some 32, op := Op.convert 2 22 (Operand.tmp 31), type := 22, pos := "ref.go:134", after := #[{ on := 2, ground := Ground.data }], guard := none }) (v := ?_) rfl (by kernel_rfl) (by kernel_rfl) (by kernel_rfl) (by decide) (fun _ _ _ h => h) (Or.inl ⟨by rfl, ?_⟩) (.inl (by assumption)) ?_
  rotate_left
  · intro w hSw; go_simp; try with_reducible rfl
  try simp only [Act.put, List.setIfInBounds_toArray, List.set_cons_zero, List.set_cons_succ]
  refine wpAnyG_takeU (i := 5) (oi := { dst := some 34, op := Op.fieldAddr 27 (Operand.tmp 1) 3, type := 0, pos := "ref.go:134", after := #[], guard := none }) (v := ?_) rfl (by kernel_rfl) (by kernel_rfl) (by kernel_rfl) (by decide) (fun _ _ _ h => h) (Or.inl ⟨by rfl, ?_⟩) (.inl (by assumption)) ?_
  rotate_left
  · intro w hSw; go_simp; try with_reducible rfl
  try simp only [Act.put, List.setIfInBounds_toArray, List.set_cons_zero, List.set_cons_succ]
  refine wpAnyG_takeM (i := 6) (oi := { dst := some 35, op := Op.load 23 (Operand.tmp 34), type := 23, pos := "ref.go:134", after := #[{ on := 5, ground := Ground.data }], guard := none }) (v := ?_) (ms := [7, 8, 9, 10, 11]) rfl (by kernel_rfl) (by kernel_rfl) (by kernel_rfl) (by kernel_rfl) (by kernel_rfl) (fun _ _ _ h => h) (Or.inl ⟨by rfl, ?_⟩) (by assumption) ?_
  rotate_left
  · intro w hSw; (try dsimp only at hSw); go_simp; try with_reducible rfl
  try simp only [Act.put, List.setIfInBounds_toArray, List.set_cons_zero, List.set_cons_succ]
  refine wpAnyG_takeU (i := 7) (oi := { dst := some 36, op := Op.call { callee := Callee.builtin Builtin.len, args := #[Operand.tmp 35], argTypes := #[23] }, type := 3, pos := "ref.go:134", after := #[{ on := 6, ground := Ground.data }], guard := none }) (v := ?_) rfl (by kernel_rfl) (by kernel_rfl) (by kernel_rfl) (by decide) (fun _ _ _ h => h) (Or.inl ⟨by rfl, ?_⟩) (.inl (by assumption)) ?_
  rotate_left
  · intro w hSw; go_simp; try with_reducible rfl
  try simp only [Act.put, List.setIfInBounds_toArray, List.set_cons_zero, List.set_cons_succ]
  refine wpAnyG_takeU (i := 8) (oi := { dst := some 37, op := Op.convert 3 5 (Operand.tmp 36), type := 5, pos := "ref.go:134", after := #[{ on := 7, ground := Ground.data }], guard := none }) (v := ?_) rfl (by kernel_rfl) (by kernel_rfl) (by kernel_rfl) (by decide) (fun _ _ _ h => h) (Or.inl ⟨by rfl, ?_⟩) (.inl (by assumption)) ?_
  rotate_left
  · intro w hSw; go_simp; try with_reducible rfl
  try simp only [Act.put, List.setIfInBounds_toArray, List.set_cons_zero, List.set_cons_succ]
  refine cutK (J := ?J3) ?h3 ?k3
  case h3 =>
    intro hJ
    have HJ := Lib.hid hJ
    clear hJ
    refine wpAnyG_two (i := 4) (oi := { dst := some 33, op := Op.call { callee := Callee.value (Operand.func 72), args := #[Operand.tmp 29, Operand.tmp 32, Operand.const (Value.int IntKind.i64 8)], argTypes := #[52, 22, 3] }, type := 52, pos := "ref.go:134", after := #[{ on := 0, ground := Ground.data }, { on := 3, ground := Ground.data }], guard := none }) (j := 9) (oj := { dst := some 38, op := Op.buildSlice 52 1 #[(0, Operand.tmp 37)], type := 52, pos := "ref.go:134", after := #[{ on := 8, ground := Ground.data }], guard := none }) (by kernel_rfl) rfl rfl (fun K hK => ?_) (fun K hK => ?_)
    · go_simp
      go_at_call 72
      refine (put13_any w.heap.size _ _ t.vou 8 (by decide) FT.out.vou (by decide) (by have := HY.out.l; omega) _ HY.out.b.size HY.out.o).mono ?_
      rintro e wq ⟨u, rfl, hown, hg⟩
      have HYO := HY
      have HY := Lib.hid (HYO.out.grown hown hg (8) (Wire.be_length _ _))
      have HR := Lib.hid (HYO.out.row hg HR.out (by decide))
      clear hown hg HYO
      have hHeld := (show (∀ j : Nat, wq.cell? ⟨w.heap.size, j, none⟩ = (#[.int .u64 t.num, .string t.loc, .int .i64 t.iss, .slice c.p c.n c.c, .slice x.p x.n x.c, .int .u64 t.prev, .int .u64 t.org, .int .u64 t.fst, .int .i64 t.vou, .int .i64 t.posts, .slice h.p h.n h.c] : Array Value)[j]?) from fun j => cell_of_row wq w.heap.size j _ _ _ HR.out)
      refine hK.out _ _ (.inl hHeld) ?_
      clear hK K
      try simp only [Act.put, List.setIfInBounds_toArray, List.set_cons_zero, List.set_cons_succ]
      refine wpAnyG_one (i := 9) (o := { dst := some 38, op := Op.buildSlice 52 1 #[(0, Operand.tmp 37)], type := 52, pos := "ref.go:134", after := #[{ on := 8, ground := Ground.data }], guard := none }) (by kernel_rfl) rfl (fun K hK => ?_)
      go_simp
      have hbn := (Below.refl wq.heap.size wq).alloc (Nat.le_refl _) (.cells #[.int .u8 (c.n : Int)] 5 (0, 0))
      replace HY := Lib.hid (HY.out.below hbn)
      have HR := Lib.hid ((hbn.block _ (block_lt HR.out)).trans HR.out)
      have HTR := Lib.hid (new_rowW wq (.cells #[.int .u8 (c.n : Int)] 5 (0, 0)) _ rfl)
      clear hbn
      have hHeld := (show (∀ j : Nat, (wq.alloc (.cells #[.int .u8 (c.n : Int)] 5 (0, 0))).cell? ⟨w.heap.size, j, none⟩ = (#[.int .u64 t.num, .string t.loc, .int .i64 t.iss, .slice c.p c.n c.c, .slice x.p x.n x.c, .int .u64 t.prev, .int .u64 t.org, .int .u64 t.fst, .int .i64 t.vou, .int .i64 t.posts, .slice h.p h.n h.c] : Array Value)[j]?) from fun j => cell_of_row _ w.heap.size j _ _ _ HR.out)
      refine hK.out _ _ (.inl hHeld) ?_
      clear hK K
      try simp only [Act.put, List.setIfInBounds_toArray, List.set_cons_zero, List.set_cons_succ]
      clear hHeld
      generalize wq.alloc (.cells #[.int .u8 (c.n : Int)] 5 (0, 0)) = Y at HY HR HTR ⊢
      generalize wq.heap.size = gb at HTR ⊢
      revert HY HR HTR
      revert Y gb u
      exact HJ.out
    · go_simp
      have hbn := (Below.refl wd.heap.size wd).alloc (Nat.le_refl _) (.cells #[.int .u8 (c.n : Int)] 5 (0, 0))
      have HYW := HY
      have HY := Lib.hid (HY.out.below hbn)
      have HR := Lib.hid ((hbn.block _ (block_lt HR.out)).trans HR.out)
      have HTR0 := Lib.hid (new_rowW wd (.cells #[.int .u8 (c.n : Int)] 5 (0, 0)) _ rfl)
      clear hbn
      have hHeld := (show (∀ j : Nat, (wd.alloc (.cells #[.int .u8 (c.n : Int)] 5 (0, 0))).cell? ⟨w.heap.size, j, none⟩ = (#[.int .u64 t.num, .string t.loc, .int .i64 t.iss, .slice c.p c.n c.c, .slice x.p x.n x.c, .int .u64 t.prev, .int .u64 t.org, .int .u64 t.fst, .int .i64 t.vou, .int .i64 t.posts, .slice h.p h.n h.c] : Array Value)[j]?) from fun j => cell_of_row _ w.heap.size j _ _ _ HR.out)
      refine hK.out _ _ (.inl hHeld) ?_
      clear hK K
      try simp only [Act.put, List.setIfInBounds_toArray, List.set_cons_zero, List.set_cons_succ]
      refine wpAnyG_one (i := 4) (o := { dst := some 33, op := Op.call { callee := Callee.value (Operand.func 72), args := #[Operand.tmp 29, Operand.tmp 32, Operand.const (Value.int IntKind.i64 8)], argTypes := #[52, 22, 3] }, type := 52, pos := "ref.go:134", after := #[{ on := 0, ground := Ground.data }, { on := 3, ground := Ground.data }], guard := none }) (by kernel_rfl) rfl (fun K hK => ?_)
      go_simp
      go_at_call 72
      refine (put13_any w.heap.size _ _ t.vou 8 (by decide) FT.out.vou (by decide) (by have := HY.out.l; omega) _ HY.out.b.size HY.out.o).mono ?_
      rintro e wq ⟨u, rfl, hown, hg⟩
      have HYO := HY
      have HY := Lib.hid (HYO.out.grown hown hg (8) (Wire.be_length _ _))
      have HR := Lib.hid (HYO.out.row hg HR.out (by decide))
      have HTR := Lib.hid ((hg.block _ (block_lt HTR0.out) (fun k => by have := (HYW.out.o.lt _ k.symm).2; omega)).trans HTR0.out)
      clear HTR0 HYW
      clear hown hg HYO
      have hHeld := (show (∀ j : Nat, wq.cell? ⟨w.heap.size, j, none⟩ = (#[.int .u64 t.num, .string t.loc, .int .i64 t.iss, .slice c.p c.n c.c, .slice x.p x.n x.c, .int .u64 t.prev, .int .u64 t.org, .int .u64 t.fst, .int .i64 t.vou, .int .i64 t.posts, .slice h.p h.n h.c] : Array Value)[j]?) from fun j => cell_of_row wq w.heap.size j _ _ _ HR.out)
      refine hK.out _ _ (.inl hHeld) ?_
      clear hK K
      try simp only [Act.put, List.setIfInBounds_toArray, List.set_cons_zero, List.set_cons_succ]
      clear hHeld
      generalize wq = Y at HY HR HTR ⊢
      generalize wd.heap.size = gb at HTR ⊢
      revert HY HR HTR
      revert Y gb u
      exact HJ.out
  case k3 =>
    intro u Y gb HY HR HTR
    have HLB := Lib.hid (bs_lits HTR.out [(c.n : Int)] (by simp) (by intro z hz; simp only [List.mem_cons, List.not_mem_nil, or_false] at hz; rcases hz with rfl <;> first | exact HFC.out) rfl)
    have hHeld := (show (∀ j : Nat, Y.cell? ⟨w.heap.size, j, none⟩ = (#[.int .u64 t.num, .string t.loc, .int .i64 t.iss, .slice c.p c.n c.c, .slice x.p x.n x.c, .int .u64 t.prev, .int .u64 t.org, .int .u64 t.fst, .int .i64 t.vou, .int .i64 t.posts, .slice h.p h.n h.c] : Array Value)[j]?) from fun j => cell_of_row Y w.heap.size j _ _ _ HR.out)
    clear HTR
    refine wpAnyG_one (i := 10) (o := { dst := some 39, op := Op.call { callee := Callee.builtin Builtin.append, args := #[Operand.tmp 33, Operand.tmp 38], argTypes := #[52, 52] }, type := 52, pos := "ref.go:134", after := #[{ on := 4, ground := Ground.data }, { on := 9, ground := Ground.data }, { on := 4, ground := Ground.chain }], guard := none }) (by kernel_rfl) rfl (fun K hK => ?_)
    refine step_append_bytesT rfl _ _ rfl w.heap.size _ _ _ rfl HY.out.o _ _ rfl HLB.out (by have := HY.out.l; have hl := lits_len [(c.n : Int)]; simp only [List.length_cons, List.length_nil] at hl; omega) HY.out.b.size ?_
    intro u2 wq hown hg
    have HYO := HY
    have HY := Lib.hid (HYO.out.app hown hg (1) (lits_len [(c.n : Int)]))
    have HR := Lib.hid (HYO.out.row hg HR.out (by decide))
    clear hown hg HYO HLB
    refine hK.out _ _ (.inr rfl) ?_
    clear hK K
    try simp only [Act.put, List.setIfInBounds_toArray, List.set_cons_zero, List.set_cons_succ]
    refine wpAnyG_takeU (i := 11) (oi := { dst := some 3, op := Op.assign (Operand.tmp 39), type := 52, pos := "ref.go:134", after := #[{ on := 10, ground := Ground.data }, { on := 10, ground := Ground.chain }, { on := 0, ground := Ground.phase }, { on := 1, ground := Ground.phase }, { on := 2, ground := Ground.phase }, { on := 3, ground := Ground.phase }, { on := 4, ground := Ground.phase }, { on := 5, ground := Ground.phase }, { on := 6, ground := Ground.phase }, { on := 7, ground := Ground.phase }, { on := 8, ground := Ground.phase }, { on := 9, ground := Ground.phase }, { on := 10, ground := Ground.phase }], guard := none }) (v := ?_) rfl (by kernel_rfl) (by kernel_rfl) (by kernel_rfl) (by decide) (fun _ _ _ h => h) (Or.inl ⟨by rfl, ?_⟩) (.inr rfl) ?_
    rotate_left
    · intro w hSw; go_simp; try with_reducible rfl
    try simp only [Act.put, List.setIfInBounds_toArray, List.set_cons_zero, List.set_cons_succ]
    refine wpAnyG_done (by kernel_rfl) ?_ _
    clear hHeld
    clear kcn kiss kvou
    have HY : Hid (YW w wq u2 (Tkt.encH t ++ Wire.be t.cs.length 1) (51)) := Lib.hid (HY.out.as (by simp [Tkt.encH, HCN.out, HXN.out, HHN.out, List.append_assoc]) (by omega))
    have hcc := fun j => cell_of_row wq w.heap.size j _ _ _ HR.out
    go_wp2_with fail
    clear hcc
    go_loopw [3, 4] (fun bv i wr => ∃ (j : Nat), j ≤ c.n ∧ i = .int .i64 j ∧ YW w wr bv (Tkt.encH t ++ Wire.be t.cs.length 1 ++ (t.cs.take j).flatMap Tkt.encC) (51 + 25 * j) ∧ wr.heap[w.heap.size]? = some (.cells #[.int .u64 t.num, .string t.loc, .int .i64 t.iss, .slice c.p c.n c.c, .slice x.p x.n x.c, .int .u64 t.prev, .int .u64 t.org, .int .u64 t.fst, .int .i64 t.vou, .int .i64 t.posts, .slice h.p h.n h.c] 27 (0, 0))) (fun _ i _ => c.n - (intOf i).toNat)
    case atStart => exact ⟨0, Nat.zero_le _, rfl, HY.out.as (by simp) (by omega), HR.out⟩
    case round =>
      obtain ⟨j, hj, rfl, hy, hr⟩ := hrel
      have HY := Lib.hid hy
      have HR := Lib.hid hr
      clear hy hr
      have hnb : c.n ≤ 4 := by have := HML.out; have := HCN.out; have := HXN.out; have := HHN.out; omega
      by_cases hlt : j < c.n
      · obtain ⟨y, hy⟩ : ∃ y, t.cs[j]? = some y := ⟨_, List.getElem?_eq_getElem (by have := HCN.out; have := HXN.out; have := HHN.out; omega)⟩
        have HX := Lib.hid hy
        have FC := Lib.hid (FT.out.cs y (List.mem_of_getElem? hy))
        obtain ⟨eb, ef, hp, -, hr⟩ := (HTS.out.below HY.out.b).cs.at hy
        obtain ⟨g1, g2⟩ := loL_of hr (Cpn.cells_length y)
        have g3 : y.cells = [.int .i64 y.fl, .int .i64 y.dy, .int .i64 y.va, .int .i64 y.st, .int .i64 y.ho, .int .u64 y.nx] := rfl
        rw [g3] at g1
        have hcs : wr.cell? ⟨w.heap.size, 3, none⟩ = some (.slice (some ⟨eb, ef, none⟩) c.n c.c) := by rw [← hp]; exact cell_of_row wr w.heap.size 3 _ _ _ HR.out
        clear g3 hr hy hp
        have tc := there_newT (w := wr) (zs := [.int .i64 0, .int .i64 0, .int .i64 0, .int .i64 0, .int .i64 0, .int .u64 0]) (e := 44) (n := 6) rfl
        have c6n : ([.int .i64 y.fl, .int .i64 y.dy, .int .i64 y.va, .int .i64 y.st, .int .i64 y.ho, .int .u64 y.nx] : List Value).length = 6 := rfl
        have c6c : ([.int .i64 y.fl, .int .i64 y.dy, .int .i64 y.va, .int .i64 y.st, .int .i64 y.ho, .int .u64 y.nx] : List Value).all (·.oneCell') = true := rfl
        go_upto_region 8 with fail
        have HP := Lib.hid (putRec (W := wr) (e := 44) (zs := [.int .i64 0, .int .i64 0, .int .i64 0, .int .i64 0, .int .i64 0, .int .u64 0]) (cs := [.int .i64 y.fl, .int .i64 y.dy, .int .i64 y.va, .int .i64 y.st, .int .i64 y.ho, .int .u64 y.nx]) rfl)
        have HY := Lib.hid (HY.out.below HP.out.2)
        have HR := Lib.hid ((HP.out.2.block _ (block_lt HR.out)).trans HR.out)
        have HRC := Lib.hid HP.out.1
        clear HP tc c6n c6c g1 g2 hcs
        generalize (wr.alloc (.cells #[.int .i64 0, .int .i64 0, .int .i64 0, .int .i64 0, .int .i64 0, .int .u64 0] 44 (0, 0))).setCells wr.heap.size 0 [.int .i64 y.fl, .int .i64 y.dy, .int .i64 y.va, .int .i64 y.st, .int .i64 y.ho, .int .u64 y.nx] = w4 at *
        generalize wr.heap.size = gc at *
        have k1 : IntKind.u64.wrap y.fl = y.fl := wrap_fit FC.out.1 (by decide)
        have k2 : IntKind.u64.wrap y.dy = y.dy := wrap_fit FC.out.2.1 (by decide)
        have k3 : IntKind.u64.wrap y.va = y.va := wrap_fit FC.out.2.2.1 (by decide)
        refine wp_region_G (C := fun W => (∀ j : Nat, W.cell? ⟨gc, j, none⟩ = (#[.int .i64 y.fl, .int .i64 y.dy, .int .i64 y.va, .int .i64 y.st, .int .i64 y.ho, .int .u64 y.nx] : Array Value)[j]?)) (s0 := 12) (by kernel_rfl) ?_
        have HY := Lib.hid (HY.out.below (Below.refl _ _).drew)
        have HR := Lib.hid (row_drewT HR.out)
        have HRC := Lib.hid (row_drewT HRC.out)
        generalize w4.drew = wd at *
        have hHeld := (show (∀ j : Nat, wd.cell? ⟨gc, j, none⟩ = (#[.int .i64 y.fl, .int .i64 y.dy, .int .i64 y.va, .int .i64 y.st, .int .i64 y.ho, .int .u64 y.nx] : Array Value)[j]?) from fun j => cell_of_row wd gc j _ _ _ HRC.out)
        refine wpAnyG_takeU (i := 0) (oi := { dst := some 52, op := Op.move (Operand.tmp 3), type := 52, pos := "ref.go:137", after := #[], guard := none }) (v := ?_) rfl (by kernel_rfl) (by kernel_rfl) (by kernel_rfl) (by decide) (fun _ _ _ h => h) (Or.inl ⟨by rfl, ?_⟩) (.inl (by assumption)) ?_
        rotate_left
        · intro w hSw; go_simp; try with_reducible rfl
        try simp only [Act.put, List.setIfInBounds_toArray, List.set_cons_zero, List.set_cons_succ]
        refine wpAnyG_takeU (i := 1) (oi := { dst := some 53, op := Op.fieldAddr 44 (Operand.tmp 5) 0, type := 0, pos := "ref.go:137", after := #[], guard := none }) (v := ?_) rfl (by kernel_rfl) (by kernel_rfl) (by kernel_rfl) (by decide) (fun _ _ _ h => h) (Or.inl ⟨by rfl, ?_⟩) (.inl (by assumption)) ?_
        rotate_left
        · intro w hSw; go_simp; try with_reducible rfl
        try simp only [Act.put, List.setIfInBounds_toArray, List.set_cons_zero, List.set_cons_succ]
        refine wpAnyG_takeM (i := 2) (oi := { dst := some 54, op := Op.load 3 (Operand.tmp 53), type := 3, pos := "ref.go:137", after := #[{ on := 1, ground := Ground.data }], guard := none }) (v := ?_) (ms := [3, 4, 8, 12, 13]) rfl (by kernel_rfl) (by kernel_rfl) (by kernel_rfl) (by kernel_rfl) (by kernel_rfl) (fun _ _ _ h => h) (Or.inl ⟨by rfl, ?_⟩) (by assumption) ?_
        rotate_left
        · intro w hSw; (try dsimp only at hSw); go_simp; try with_reducible rfl
        try simp only [Act.put, List.setIfInBounds_toArray, List.set_cons_zero, List.set_cons_succ]
        refine wpAnyG_takeU (i := 3) (oi := { dst := some 55, op := Op.convert 3 22 (Operand.tmp 54), type := 22, pos := "ref.go:137", after := #[{ on := 2, ground := Ground.data }], guard := none }) (v := ?_) rfl (by kernel_rfl) (by kernel_rfl) (by kernel_rfl) (by decide) (fun _ _ _ h => h) (Or.inl ⟨by rfl, ?_⟩) (.inl (by assumption)) ?_
        rotate_left
        · intro w hSw; go_simp; try with_reducible rfl
        try simp only [Act.put, List.setIfInBounds_toArray, List.set_cons_zero, List.set_cons_succ]
        refine wpAnyG_takeU (i := 5) (oi := { dst := some 57, op := Op.fieldAddr 44 (Operand.tmp 5) 1, type := 0, pos := "ref.go:137", after := #[], guard := none }) (v := ?_) rfl (by kernel_rfl) (by kernel_rfl) (by kernel_rfl) (by decide) (fun _ _ _ h => h) (Or.inl ⟨by rfl, ?_⟩) (.inl (by assumption)) ?_
        rotate_left
        · intro w hSw; go_simp; try with_reducible rfl
        try simp only [Act.put, List.setIfInBounds_toArray, List.set_cons_zero, List.set_cons_succ]
        refine wpAnyG_takeM (i := 6) (oi := { dst := some 58, op := Op.load 3 (Operand.tmp 57), type := 3, pos := "ref.go:137", after := #[{ on := 5, ground := Ground.data }], guard := none }) (v := ?_) (ms := [7, 8, 12, 13]) rfl (by kernel_rfl) (by kernel_rfl) (by kernel_rfl) (by kernel_rfl) (by kernel_rfl) (fun _ _ _ h => h) (Or.inl ⟨by rfl, ?_⟩) (by assumption) ?_
        rotate_left
        · intro w hSw; (try dsimp only at hSw); go_simp; try with_reducible rfl
        try simp only [Act.put, List.setIfInBounds_toArray, List.set_cons_zero, List.set_cons_succ]
        refine wpAnyG_takeU (i := 7) (oi := { dst := some 59, op := Op.convert 3 22 (Operand.tmp 58), type := 22, pos := "ref.go:137", after := #[{ on := 6, ground := Ground.data }], guard := none }) (v := ?_) rfl (by kernel_rfl) (by kernel_rfl) (by kernel_rfl) (by decide) (fun _ _ _ h => h) (Or.inl ⟨by rfl, ?_⟩) (.inl (by assumption)) ?_
        rotate_left
        · intro w hSw; go_simp; try with_reducible rfl
        try simp only [Act.put, List.setIfInBounds_toArray, List.set_cons_zero, List.set_cons_succ]
        refine wpAnyG_takeU (i := 9) (oi := { dst := some 61, op := Op.fieldAddr 44 (Operand.tmp 5) 2, type := 0, pos := "ref.go:137", after := #[], guard := none }) (v := ?_) rfl (by kernel_rfl) (by kernel_rfl) (by kernel_rfl) (by decide) (fun _ _ _ h => h) (Or.inl ⟨by rfl, ?_⟩) (.inl (by assumption)) ?_
        rotate_left
        · intro w hSw; go_simp; try with_reducible rfl
        try simp only [Act.put, List.setIfInBounds_toArray, List.set_cons_zero, List.set_cons_succ]
        refine wpAnyG_takeM (i := 10) (oi := { dst := some 62, op := Op.load 2 (Operand.tmp 61), type := 2, pos := "ref.go:137", after := #[{ on := 9, ground := Ground.data }], guard := none }) (v := ?_) (ms := [11, 12, 13]) rfl (by kernel_rfl) (by kernel_rfl) (by kernel_rfl) (by kernel_rfl) (by kernel_rfl) (fun _ _ _ h => h) (Or.inl ⟨by rfl, ?_⟩) (by assumption) ?_
        rotate_left
        · intro w hSw; (try dsimp only at hSw); go_simp; try with_reducible rfl
        try simp only [Act.put, List.setIfInBounds_toArray, List.set_cons_zero, List.set_cons_succ]
        refine wpAnyG_takeU (i := 11) (oi := { dst := some 63, op := Op.convert 2 22 (Operand.tmp 62), type := 22, pos := "ref.go:137", after := #[{ on := 10, ground := Ground.data }], guard := none }) (v := ?_) rfl (by kernel_rfl) (by kernel_rfl) (by kernel_rfl) (by decide) (fun _ _ _ h => h) (Or.inl ⟨by rfl, ?_⟩) (.inl (by assumption)) ?_
        rotate_left
        · intro w hSw; go_simp; try with_reducible rfl
        try simp only [Act.put, List.setIfInBounds_toArray, List.set_cons_zero, List.set_cons_succ]
        refine wpAnyG_one (i := 4) (o := { dst := some 56, op := Op.call { callee := Callee.value (Operand.func 72), args := #[Operand.tmp 52, Operand.tmp 55, Operand.const (Value.int IntKind.i64 2)], argTypes := #[52, 22, 3] }, type := 52, pos := "ref.go:137", after := #[{ on := 0, ground := Ground.data }, { on := 3, ground := Ground.data }], guard := none }) (by kernel_rfl) rfl (fun K hK => ?_)
        go_simp
        go_at_call 72
        refine (put13_any w.heap.size _ _ y.fl 2 (by decide) FC.out.1 (by decide) (by have := HY.out.l; omega) _ HY.out.b.size HY.out.o).mono ?_
        rintro e wq ⟨u, rfl, hown, hg⟩
        have HYO := HY
        have HY := Lib.hid (HYO.out.grown hown hg (2) (Wire.be_length _ _))
        have HR := Lib.hid (HYO.out.row hg HR.out (by decide))
        have HRC := Lib.hid (HYO.out.row hg HRC.out (by decide))
        clear hown hg HYO
        have hHeld := (show (∀ j : Nat, wq.cell? ⟨gc, j, none⟩ = (#[.int .i64 y.fl, .int .i64 y.dy, .int .i64 y.va, .int .i64 y.st, .int .i64 y.ho, .int .u64 y.nx] : Array Value)[j]?) from fun j => cell_of_row wq gc j _ _ _ HRC.out)
        refine hK.out _ _ (.inl hHeld) ?_
        clear hK K
        try simp only [Act.put, List.setIfInBounds_toArray, List.set_cons_zero, List.set_cons_succ]
        refine wpAnyG_one (i := 8) (o := { dst := some 60, op := Op.call { callee := Callee.value (Operand.func 72), args := #[Operand.tmp 56, Operand.tmp 59, Operand.const (Value.int IntKind.i64 4)], argTypes := #[52, 22, 3] }, type := 52, pos := "ref.go:137", after := #[{ on := 4, ground := Ground.data }, { on := 7, ground := Ground.data }, { on := 4, ground := Ground.chain }], guard := none }) (by kernel_rfl) rfl (fun K hK => ?_)
        go_simp
        go_at_call 72
        refine (put13_any w.heap.size _ _ y.dy 4 (by decide) FC.out.2.1 (by decide) (by have := HY.out.l; omega) _ HY.out.b.size HY.out.o).mono ?_
        rintro e wq ⟨u, rfl, hown, hg⟩
        have HYO := HY
        have HY := Lib.hid (HYO.out.grown hown hg (4) (Wire.be_length _ _))
        have HR := Lib.hid (HYO.out.row hg HR.out (by decide))
        have HRC := Lib.hid (HYO.out.row hg HRC.out (by decide))
        clear hown hg HYO
        have hHeld := (show (∀ j : Nat, wq.cell? ⟨gc, j, none⟩ = (#[.int .i64 y.fl, .int .i64 y.dy, .int .i64 y.va, .int .i64 y.st, .int .i64 y.ho, .int .u64 y.nx] : Array Value)[j]?) from fun j => cell_of_row wq gc j _ _ _ HRC.out)
        refine hK.out _ _ (.inl hHeld) ?_
        clear hK K
        try simp only [Act.put, List.setIfInBounds_toArray, List.set_cons_zero, List.set_cons_succ]
        refine wpAnyG_one (i := 12) (o := { dst := some 64, op := Op.call { callee := Callee.value (Operand.func 72), args := #[Operand.tmp 60, Operand.tmp 63, Operand.const (Value.int IntKind.i64 8)], argTypes := #[52, 22, 3] }, type := 52, pos := "ref.go:137", after := #[{ on := 8, ground := Ground.data }, { on := 11, ground := Ground.data }, { on := 8, ground := Ground.chain }], guard := none }) (by kernel_rfl) rfl (fun K hK => ?_)
        go_simp
        go_at_call 72
        refine (put13_any w.heap.size _ _ y.va 8 (by decide) FC.out.2.2.1 (by decide) (by have := HY.out.l; omega) _ HY.out.b.size HY.out.o).mono ?_
        rintro e wq ⟨u, rfl, hown, hg⟩
        have HYO := HY
        have HY := Lib.hid (HYO.out.grown hown hg (8) (Wire.be_length _ _))
        have HR := Lib.hid (HYO.out.row hg HR.out (by decide))
        have HRC := Lib.hid (HYO.out.row hg HRC.out (by decide))
        clear hown hg HYO
        refine hK.out _ _ (.inr rfl) ?_
        clear hK K
        try simp only [Act.put, List.setIfInBounds_toArray, List.set_cons_zero, List.set_cons_succ]
        refine wpAnyG_takeU (i := 13) (oi := { dst := some 3, op := Op.assign (Operand.tmp 64), type := 52, pos := "ref.go:137", after := #[{ on := 12, ground := Ground.data }, { on := 12, ground := Ground.chain }, { on := 0, ground := Ground.phase }, { on := 1, ground := Ground.phase }, { on := 2, ground := Ground.phase }, { on := 3, ground := Ground.phase }, { on := 4, ground := Ground.phase }, { on := 5, ground := Ground.phase }, { on := 6, ground := Ground.phase }, { on := 7, ground := Ground.phase }, { on := 8, ground := Ground.phase }, { on := 9, ground := Ground.phase }, { on := 10, ground := Ground.phase }, { on := 11, ground := Ground.phase }, { on := 12, ground := Ground.phase }], guard := none }) (v := ?_) rfl (by kernel_rfl) (by kernel_rfl) (by kernel_rfl) (by decide) (fun _ _ _ h => h) (Or.inl ⟨by rfl, ?_⟩) (.inr rfl) ?_
        rotate_left
        · intro w hSw; go_simp; try with_reducible rfl
        try simp only [Act.put, List.setIfInBounds_toArray, List.set_cons_zero, List.set_cons_succ]
        refine wpAnyG_done (by kernel_rfl) ?_ _
        clear hHeld
        clear k1 k2 k3
        have k1 : IntKind.u8.wrap y.st = y.st := wrap_byte FC.out.2.2.2.1
        have k2 : IntKind.u64.wrap y.ho = y.ho := wrap_fit FC.out.2.2.2.2.1 (by decide)
        go_wp2_with fail
        refine wp_region_G (C := fun W => (∀ j : Nat, W.cell? ⟨gc, j, none⟩ = (#[.int .i64 y.fl, .int .i64 y.dy, .int .i64 y.va, .int .i64 y.st, .int .i64 y.ho, .int .u64 y.nx] : Array Value)[j]?)) (s0 := 12) (by kernel_rfl) ?_
        have HY := Lib.hid (HY.out.below (Below.refl _ _).drew)
        have HR := Lib.hid (row_drewT HR.out)
        have HRC := Lib.hid (row_drewT HRC.out)
        generalize wq.drew = wd at *
        have hHeld := (show (∀ j : Nat, wd.cell? ⟨gc, j, none⟩ = (#[.int .i64 y.fl, .int .i64 y.dy, .int .i64 y.va, .int .i64 y.st, .int .i64 y.ho, .int .u64 y.nx] : Array Value)[j]?) from fun j => cell_of_row wd gc j _ _ _ HRC.out)
        refine wpAnyG_takeU (i := 0) (oi := { dst := some 65, op := Op.move (Operand.tmp 3), type := 52, pos := "ref.go:138", after := #[], guard := none }) (v := ?_) rfl (by kernel_rfl) (by kernel_rfl) (by kernel_rfl) (by decide) (fun _ _ _ h => h) (Or.inl ⟨by rfl, ?_⟩) (.inl (by assumption)) ?_
        rotate_left
        · intro w hSw; go_simp; try with_reducible rfl
        try simp only [Act.put, List.setIfInBounds_toArray, List.set_cons_zero, List.set_cons_succ]
        refine wpAnyG_takeU (i := 1) (oi := { dst := some 66, op := Op.fieldAddr 44 (Operand.tmp 5) 3, type := 0, pos := "ref.go:138", after := #[], guard := none }) (v := ?_) rfl (by kernel_rfl) (by kernel_rfl) (by kernel_rfl) (by decide) (fun _ _ _ h => h) (Or.inl ⟨by rfl, ?_⟩) (.inl (by assumption)) ?_
        rotate_left
        · intro w hSw; go_simp; try with_reducible rfl
        try simp only [Act.put, List.setIfInBounds_toArray, List.set_cons_zero, List.set_cons_succ]
        refine wpAnyG_takeM (i := 2) (oi := { dst := some 67, op := Op.load 35 (Operand.tmp 66), type := 35, pos := "ref.go:138", after := #[{ on := 1, ground := Ground.data }], guard := none }) (v := ?_) (ms := [3, 4, 5, 9, 12, 13]) rfl (by kernel_rfl) (by kernel_rfl) (by kernel_rfl) (by kernel_rfl) (by kernel_rfl) (fun _ _ _ h => h) (Or.inl ⟨by rfl, ?_⟩) (by assumption) ?_
        rotate_left
        · intro w hSw; (try dsimp only at hSw); go_simp; try with_reducible rfl
        try simp only [Act.put, List.setIfInBounds_toArray, List.set_cons_zero, List.set_cons_succ]
        refine wpAnyG_takeU (i := 3) (oi := { dst := some 68, op := Op.convert 35 5 (Operand.tmp 67), type := 5, pos := "ref.go:138", after := #[{ on := 2, ground := Ground.data }], guard := none }) (v := ?_) rfl (by kernel_rfl) (by kernel_rfl) (by kernel_rfl) (by decide) (fun _ _ _ h => h) (Or.inl ⟨by rfl, ?_⟩) (.inl (by assumption)) ?_
        rotate_left
        · intro w hSw; go_simp; try with_reducible rfl
        try simp only [Act.put, List.setIfInBounds_toArray, List.set_cons_zero, List.set_cons_succ]
        refine wpAnyG_takeU (i := 6) (oi := { dst := some 71, op := Op.fieldAddr 44 (Operand.tmp 5) 4, type := 0, pos := "ref.go:138", after := #[], guard := none }) (v := ?_) rfl (by kernel_rfl) (by kernel_rfl) (by kernel_rfl) (by decide) (fun _ _ _ h => h) (Or.inl ⟨by rfl, ?_⟩) (.inl (by assumption)) ?_
        rotate_left
        · intro w hSw; go_simp; try with_reducible rfl
        try simp only [Act.put, List.setIfInBounds_toArray, List.set_cons_zero, List.set_cons_succ]
        refine wpAnyG_takeM (i := 7) (oi := { dst := some 72, op := Op.load 3 (Operand.tmp 71), type := 3, pos := "ref.go:138", after := #[{ on := 6, ground := Ground.data }], guard := none }) (v := ?_) (ms := [8, 9, 12, 13]) rfl (by kernel_rfl) (by kernel_rfl) (by kernel_rfl) (by kernel_rfl) (by kernel_rfl) (fun _ _ _ h => h) (Or.inl ⟨by rfl, ?_⟩) (by assumption) ?_
        rotate_left
        · intro w hSw; (try dsimp only at hSw); go_simp; try with_reducible rfl
        try simp only [Act.put, List.setIfInBounds_toArray, List.set_cons_zero, List.set_cons_succ]
        refine wpAnyG_takeU (i := 8) (oi := { dst := some 73, op := Op.convert 3 22 (Operand.tmp 72), type := 22, pos := "ref.go:138", after := #[{ on := 7, ground := Ground.data }], guard := none }) (v := ?_) rfl (by kernel_rfl) (by kernel_rfl) (by kernel_rfl) (by decide) (fun _ _ _ h => h) (Or.inl ⟨by rfl, ?_⟩) (.inl (by assumption)) ?_
        rotate_left
        · intro w hSw; go_simp; try with_reducible rfl
        try simp only [Act.put, List.setIfInBounds_toArray, List.set_cons_zero, List.set_cons_succ]
        refine wpAnyG_takeU (i := 10) (oi := { dst := some 75, op := Op.fieldAddr 44 (Operand.tmp 5) 5, type := 0, pos := "ref.go:138", after := #[], guard := none }) (v := ?_) rfl (by kernel_rfl) (by kernel_rfl) (by kernel_rfl) (by decide) (fun _ _ _ h => h) (Or.inl ⟨by rfl, ?_⟩) (.inl (by assumption)) ?_
        rotate_left
        · intro w hSw; go_simp; try with_reducible rfl
        try simp only [Act.put, List.setIfInBounds_toArray, List.set_cons_zero, List.set_cons_succ]
        refine wpAnyG_takeM (i := 11) (oi := { dst := some 76, op := Op.load 22 (Operand.tmp 75), type := 22, pos := "ref.go:138", after := #[{ on := 10, ground := Ground.data }], guard := none }) (v := ?_) (ms := [12, 13]) rfl (by kernel_rfl) (by kernel_rfl) (by kernel_rfl) (by kernel_rfl) (by kernel_rfl) (fun _ _ _ h => h) (Or.inl ⟨by rfl, ?_⟩) (by assumption) ?_
        rotate_left
        · intro w hSw; (try dsimp only at hSw); go_simp; try with_reducible rfl
        try simp only [Act.put, List.setIfInBounds_toArray, List.set_cons_zero, List.set_cons_succ]
        refine wpAnyG_one (i := 4) (o := { dst := some 69, op := Op.buildSlice 52 1 #[(0, Operand.tmp 68)], type := 52, pos := "ref.go:138", after := #[{ on := 3, ground := Ground.data }], guard := none }) (by kernel_rfl) rfl (fun K hK => ?_)
        go_simp
        have hbn := (Below.refl wd.heap.size wd).alloc (Nat.le_refl _) (.cells #[.int .u8 y.st] 5 (0, 0))
        have HY := Lib.hid (HY.out.below hbn)
        have HR := Lib.hid ((hbn.block _ (block_lt HR.out)).trans HR.out)
        have HRC := Lib.hid ((hbn.block _ (block_lt HRC.out)).trans HRC.out)
        have HLB := Lib.hid (bs_lits (W := wd.alloc (.cells #[.int .u8 y.st] 5 (0, 0))) (new_rowW _ _ _ rfl) [y.st] (by simp) (by intro z hz; simp only [List.mem_cons, List.not_mem_nil, or_false] at hz; rcases hz with rfl <;> first | exact FC.out.2.2.2.1) rfl)
        clear hbn
        have hHeld := (show (∀ j : Nat, (wd.alloc (.cells #[.int .u8 y.st] 5 (0, 0))).cell? ⟨gc, j, none⟩ = (#[.int .i64 y.fl, .int .i64 y.dy, .int .i64 y.va, .int .i64 y.st, .int .i64 y.ho, .int .u64 y.nx] : Array Value)[j]?) from fun j => cell_of_row _ gc j _ _ _ HRC.out)
        refine hK.out _ _ (.inl hHeld) ?_
        clear hK K
        try simp only [Act.put, List.setIfInBounds_toArray, List.set_cons_zero, List.set_cons_succ]
        generalize wd.alloc (.cells #[.int .u8 y.st] 5 (0, 0)) = wb at *
        refine wpAnyG_one (i := 5) (o := { dst := some 70, op := Op.call { callee := Callee.builtin Builtin.append, args := #[Operand.tmp 65, Operand.tmp 69], argTypes := #[52, 52] }, type := 52, pos := "ref.go:138", after := #[{ on := 0, ground := Ground.data }, { on := 4, ground := Ground.data }], guard := none }) (by kernel_rfl) rfl (fun K hK => ?_)
        refine step_append_bytesT rfl _ _ rfl w.heap.size _ _ _ rfl HY.out.o _ _ rfl HLB.out (by have := HY.out.l; have hl := lits_len [y.st]; simp only [List.length_cons, List.length_nil] at hl; omega) HY.out.b.size ?_
        intro u wq hown hg
        have HYO := HY
        have HY := Lib.hid (HYO.out.app hown hg (1) (lits_len [y.st]))
        have HR := Lib.hid (HYO.out.row hg HR.out (by decide))
        have HRC := Lib.hid (HYO.out.row hg HRC.out (by decide))
        clear hown hg HYO HLB
        have hHeld := (show (∀ j : Nat, wq.cell? ⟨gc, j, none⟩ = (#[.int .i64 y.fl, .int .i64 y.dy, .int .i64 y.va, .int .i64 y.st, .int .i64 y.ho, .int .u64 y.nx] : Array Value)[j]?) from fun j => cell_of_row wq gc j _ _ _ HRC.out)
        refine hK.out _ _ (.inl hHeld) ?_
        clear hK K
        try simp only [Act.put, List.setIfInBounds_toArray, List.set_cons_zero, List.set_cons_succ]
        refine wpAnyG_one (i := 9) (o := { dst := some 74, op := Op.call { callee := Callee.value (Operand.func 72), args := #[Operand.tmp 70, Operand.tmp 73, Operand.const (Value.int IntKind.i64 2)], argTypes := #[52, 22, 3] }, type := 52, pos := "ref.go:138", after := #[{ on := 5, ground := Ground.data }, { on := 8, ground := Ground.data }, { on := 5, ground := Ground.chain }], guard := none }) (by kernel_rfl) rfl (fun K hK => ?_)
        go_simp
        go_at_call 72
        refine (put13_any w.heap.size _ _ y.ho 2 (by decide) FC.out.2.2.2.2.1 (by decide) (by have := HY.out.l; omega) _ HY.out.b.size HY.out.o).mono ?_
        rintro e wq ⟨u, rfl, hown, hg⟩
        have HYO := HY
        have HY := Lib.hid (HYO.out.grown hown hg (2) (Wire.be_length _ _))
        have HR := Lib.hid (HYO.out.row hg HR.out (by decide))
        have HRC := Lib.hid (HYO.out.row hg HRC.out (by decide))
        clear hown hg HYO
        have hHeld := (show (∀ j : Nat, wq.cell? ⟨gc, j, none⟩ = (#[.int .i64 y.fl, .int .i64 y.dy, .int .i64 y.va, .int .i64 y.st, .int .i64 y.ho, .int .u64 y.nx] : Array Value)[j]?) from fun j => cell_of_row wq gc j _ _ _ HRC.out)
        refine hK.out _ _ (.inl hHeld) ?_
        clear hK K
        try simp only [Act.put, List.setIfInBounds_toArray, List.set_cons_zero, List.set_cons_succ]
        refine wpAnyG_one (i := 12) (o := { dst := some 77, op := Op.call { callee := Callee.value (Operand.func 72), args := #[Operand.tmp 74, Operand.tmp 76, Operand.const (Value.int IntKind.i64 8)], argTypes := #[52, 22, 3] }, type := 52, pos := "ref.go:138", after := #[{ on := 9, ground := Ground.data }, { on := 11, ground := Ground.data }, { on := 9, ground := Ground.chain }], guard := none }) (by kernel_rfl) rfl (fun K hK => ?_)
        go_simp
        go_at_call 72
        refine (put13_any w.heap.size _ _ y.nx 8 (by decide) FC.out.2.2.2.2.2 (by decide) (by have := HY.out.l; omega) _ HY.out.b.size HY.out.o).mono ?_
        rintro e wq ⟨u, rfl, hown, hg⟩
        have HYO := HY
        have HY := Lib.hid (HYO.out.grown hown hg (8) (Wire.be_length _ _))
        have HR := Lib.hid (HYO.out.row hg HR.out (by decide))
        have HRC := Lib.hid (HYO.out.row hg HRC.out (by decide))
        clear hown hg HYO
        refine hK.out _ _ (.inr rfl) ?_
        clear hK K
        try simp only [Act.put, List.setIfInBounds_toArray, List.set_cons_zero, List.set_cons_succ]
        refine wpAnyG_takeU (i := 13) (oi := { dst := some 3, op := Op.assign (Operand.tmp 77), type := 52, pos := "ref.go:138", after := #[{ on := 12, ground := Ground.data }, { on := 12, ground := Ground.chain }, { on := 0, ground := Ground.phase }, { on := 1, ground := Ground.phase }, { on := 2, ground := Ground.phase }, { on := 3, ground := Ground.phase }, { on := 4, ground := Ground.phase }, { on := 5, ground := Ground.phase }, { on := 6, ground := Ground.phase }, { on := 7, ground := Ground.phase }, { on := 8, ground := Ground.phase }, { on := 9, ground := Ground.phase }, { on := 10, ground := Ground.phase }, { on := 11, ground := Ground.phase }, { on := 12, ground := Ground.phase }], guard := none }) (v := ?_) rfl (by kernel_rfl) (by kernel_rfl) (by kernel_rfl) (by decide) (fun _ _ _ h => h) (Or.inl ⟨by rfl, ?_⟩) (.inr rfl) ?_
        rotate_left
        · intro w hSw; go_simp; try with_reducible rfl
        try simp only [Act.put, List.setIfInBounds_toArray, List.set_cons_zero, List.set_cons_succ]
        refine wpAnyG_done (by kernel_rfl) ?_ _
        clear hHeld
        clear k1 k2 HRC
        go_wp2_with fail
        go_roundw
        case rel => exact ⟨j + 1, by omega, by go_num, HY.out.as (by rw [Tkt.take_snocG HX.out, List.flatMap_append]; simp [Tkt.encC, List.append_assoc]) (by omega), HR.out⟩
        case measure => simp [intOf]; omega
      · have hjn : j = c.n := by omega
        subst hjn
        have hlen : t.cs.take c.n = t.cs := List.take_of_length_le (by have := HCN.out; have := HXN.out; have := HHN.out; omega)
        rw [hlen] at HY
        clear hlen
        have kxn : IntKind.u8.wrap (x.n : Int) = (x.n : Int) := wrap_byte (fit_len HXN.out (by have := HML.out; omega))
        have HFX : Hid (Tkt.fitN (x.n : Int) 256) := Lib.hid (fit_len HXN.out (by have := HML.out; omega))
        have hcc := fun j => cell_of_row wr w.heap.size j _ _ _ HR.out
        have HO1 := Lib.hid (own_below HY.out.o ((Below.refl wr.heap.size wr).alloc (Nat.le_refl _) (.cells #[.int .u8 (x.n : Int)] 5 (0, 0))))
        have HB1 := Lib.hid (bs_lits (W := wr.alloc (.cells #[.int .u8 (x.n : Int)] 5 (0, 0))) (new_rowW wr (.cells #[.int .u8 (x.n : Int)] 5 (0, 0)) _ rfl) [(x.n : Int)] (by simp) (by intro z hz; simp only [List.mem_cons, List.not_mem_nil, or_false] at hz; rcases hz with rfl <;> first | exact HFX.out) rfl)
        go_wp2_with (at_builtin; (refine wpList_append_bytes rfl _ _ rfl w.heap.size _ _ _ rfl HO1.out _ _ rfl HB1.out (by have := HY.out.l; have hl := lits_len [(x.n : Int)]; simp only [List.length_cons, List.length_nil] at hl; omega) (by have := HY.out.b.size; simp; omega) ?_); intro u2 wq hown hg hn1 hat1; (have HYA := Lib.hid (HY.out.below ((Below.refl wr.heap.size wr).alloc (Nat.le_refl _) (.cells #[.int .u8 (x.n : Int)] 5 (0, 0))))); (have HR := Lib.hid (HYA.out.row hg (row_after HR.out) (by decide))); (have HY := Lib.hid (HYA.out.app hown hg (1) (lits_len [(x.n : Int)]))); (have HY : Hid (YW w wq u2 ((Tkt.encH t ++ Wire.be t.cs.length 1 ++ t.cs.flatMap Tkt.encC) ++ Wire.be t.ts.length 1) (152)) := Lib.hid (HY.out.as (by simp [Tkt.encH, HCN.out, HXN.out, HHN.out, List.append_assoc]) (by omega))); clear hown hg hn1 hat1 HYA HO1 HB1 kxn hcc)
        go_loopw [3, 6] (fun bv i wr => ∃ (j : Nat), j ≤ x.n ∧ i = .int .i64 j ∧ YW w wr bv ((Tkt.encH t ++ Wire.be t.cs.length 1 ++ t.cs.flatMap Tkt.encC) ++ Wire.be t.ts.length 1 ++ (t.ts.take j).flatMap Tkt.encX) (152 + 9 * j) ∧ wr.heap[w.heap.size]? = some (.cells #[.int .u64 t.num, .string t.loc, .int .i64 t.iss, .slice c.p c.n c.c, .slice x.p x.n x.c, .int .u64 t.prev, .int .u64 t.org, .int .u64 t.fst, .int .i64 t.vou, .int .i64 t.posts, .slice h.p h.n h.c] 27 (0, 0))) (fun _ i _ => x.n - (intOf i).toNat)
        case atStart => exact ⟨0, Nat.zero_le _, rfl, HY.out.as (by simp) (by omega), HR.out⟩
        case round =>
          obtain ⟨j, hj, rfl, hy, hr⟩ := hrel
          have HY := Lib.hid hy
          have HR := Lib.hid hr
          clear hy hr
          have hnb : x.n ≤ 4 := by have := HML.out; have := HCN.out; have := HXN.out; have := HHN.out; omega
          by_cases hlt : j < x.n
          · obtain ⟨y, hy⟩ : ∃ y, t.ts[j]? = some y := ⟨_, List.getElem?_eq_getElem (by have := HXN.out; omega)⟩
            have HX := Lib.hid hy
            have FC := Lib.hid (FT.out.ts y (List.mem_of_getElem? hy))
            obtain ⟨eb, ef, hp, -, -⟩ := (HTS.out.below HY.out.b).ts.at hy
            have HXP := Lib.hid hp
            clear hp hy
            have hcs : wr.cell? ⟨w.heap.size, 4, none⟩ = some (.slice (some ⟨eb, ef, none⟩) x.n x.c) := by rw [← HXP.out]; exact cell_of_row wr w.heap.size 4 _ _ _ HR.out
            go_upto_region 14 with fail
            clear hcs
            have k1 : IntKind.u8.wrap y.cd = y.cd := wrap_byte FC.out.1
            have k2 : IntKind.u64.wrap y.am = y.am := wrap_fit FC.out.2 (by decide)
            refine wp_region_G (C := fun W => W.cell? ⟨eb, ef + j * 2, none⟩ = some (.int .i64 y.cd) ∧ W.cell? ⟨eb, ef + j * 2 + 1, none⟩ = some (.int .i64 y.am) ∧ W.cell? ⟨w.heap.size, 4, none⟩ = some (.slice (some ⟨eb, ef, none⟩) x.n x.c)) (s0 := 17) (by kernel_rfl) ?_
            have HY := Lib.hid (HY.out.below (Below.refl _ _).drew)
            have HR := Lib.hid (row_drewT HR.out)
            generalize wr.drew = wd at *
            have hHeld := (show wd.cell? ⟨eb, ef + j * 2, none⟩ = some (.int .i64 y.cd) ∧ wd.cell? ⟨eb, ef + j * 2 + 1, none⟩ = some (.int .i64 y.am) ∧ wd.cell? ⟨w.heap.size, 4, none⟩ = some (.slice (some ⟨eb, ef, none⟩) x.n x.c) from ⟨(tx_at HTS.out HY.out.b HX.out HXP.out).1, (tx_at HTS.out HY.out.b HX.out HXP.out).2, (by rw [← HXP.out]; exact cell_of_row _ w.heap.size 4 _ _ _ HR.out)⟩)
            refine wpAnyG_takeU (i := 0) (oi := { dst := some 92, op := Op.move (Operand.tmp 3), type := 52, pos := "ref.go:142", after := #[], guard := none }) (v := ?_) rfl (by kernel_rfl) (by kernel_rfl) (by kernel_rfl) (by decide) (fun _ _ _ h => h) (Or.inl ⟨by rfl, ?_⟩) (.inl (by assumption)) ?_
            rotate_left
            · intro w hSw; go_simp; try with_reducible rfl
            try simp only [Act.put, List.setIfInBounds_toArray, List.set_cons_zero, List.set_cons_succ]
            refine wpAnyG_takeU (i := 1) (oi := { dst := some 93, op := Op.fieldAddr 27 (Operand.tmp 1) 4, type := 0, pos := "ref.go:142", after := #[], guard := none }) (v := ?_) rfl (by kernel_rfl) (by kernel_rfl) (by kernel_rfl) (by decide) (fun _ _ _ h => h) (Or.inl ⟨by rfl, ?_⟩) (.inl (by assumption)) ?_
            rotate_left
            · intro w hSw; go_simp; try with_reducible rfl
            try simp only [Act.put, List.setIfInBounds_toArray, List.set_cons_zero, List.set_cons_succ]
            refine wpAnyG_takeM (i := 2) (oi := { dst := some 94, op := Op.load 24 (Operand.tmp 93), type := 24, pos := "ref.go:142", after := #[{ on := 1, ground := Ground.data }], guard := none }) (v := ?_) (ms := [4, 5, 6, 7, 8, 9, 17, 18]) rfl (by kernel_rfl) (by kernel_rfl) (by kernel_rfl) (by kernel_rfl) (by kernel_rfl) (fun _ _ _ h => h) (Or.inl ⟨by rfl, ?_⟩) (by assumption) ?_
            rotate_left
            · intro w hSw; (try dsimp only at hSw); go_simp; try with_reducible rfl
            try simp only [Act.put, List.setIfInBounds_toArray, List.set_cons_zero, List.set_cons_succ]
            refine wpAnyG_takeU (i := 3) (oi := { dst := some 95, op := Op.move (Operand.tmp 6), type := 3, pos := "ref.go:142", after := #[], guard := none }) (v := ?_) rfl (by kernel_rfl) (by kernel_rfl) (by kernel_rfl) (by decide) (fun _ _ _ h => h) (Or.inl ⟨by rfl, ?_⟩) (.inl (by assumption)) ?_
            rotate_left
            · intro w hSw; go_simp; try with_reducible rfl
            try simp only [Act.put, List.setIfInBounds_toArray, List.set_cons_zero, List.set_cons_succ]
            refine wpAnyG_takeU (i := 4) (oi := { dst := some 96, op := Op.indexAddr 24 (Operand.tmp 94) (Operand.tmp 95), type := 0, pos := "ref.go:142", after := #[{ on := 2, ground := Ground.data }, { on := 3, ground := Ground.data }], guard := none }) (v := ?_) rfl (by kernel_rfl) (by kernel_rfl) (by kernel_rfl) (by decide) (fun _ _ _ h => h) (Or.inl ⟨by rfl, ?_⟩) (.inl (by assumption)) ?_
            rotate_left
            · intro w hSw; go_simp; try with_reducible rfl
            try simp only [Act.put, List.setIfInBounds_toArray, List.set_cons_zero, List.set_cons_succ]
            refine wpAnyG_takeU (i := 5) (oi := { dst := some 97, op := Op.fieldAddr 48 (Operand.tmp 96) 0, type := 0, pos := "ref.go:142", after := #[{ on := 4, ground := Ground.data }], guard := none }) (v := ?_) rfl (by kernel_rfl) (by kernel_rfl) (by kernel_rfl) (by decide) (fun _ _ _ h => h) (Or.inl ⟨by rfl, ?_⟩) (.inl (by assumption)) ?_
            rotate_left
            · intro w hSw; go_simp; try with_reducible rfl
            try simp only [Act.put, List.setIfInBounds_toArray, List.set_cons_zero, List.set_cons_succ]
            refine wpAnyG_takeM (i := 6) (oi := { dst := some 98, op := Op.load 3 (Operand.tmp 97), type := 3, pos := "ref.go:142", after := #[{ on := 5, ground := Ground.data }], guard := none }) (v := ?_) (ms := [7, 8, 9, 17, 18]) rfl (by kernel_rfl) (by kernel_rfl) (by kernel_rfl) (by kernel_rfl) (by kernel_rfl) (fun _ _ _ h => h) (Or.inl ⟨by rfl, ?_⟩) (by assumption) ?_
            rotate_left
            · intro w hSw; (try dsimp only at hSw); go_simp; try with_reducible rfl
            try simp only [Act.put, List.setIfInBounds_toArray, List.set_cons_zero, List.set_cons_succ]
            refine wpAnyG_takeU (i := 7) (oi := { dst := some 99, op := Op.convert 3 5 (Operand.tmp 98), type := 5, pos := "ref.go:142", after := #[{ on := 6, ground := Ground.data }], guard := none }) (v := ?_) rfl (by kernel_rfl) (by kernel_rfl) (by kernel_rfl) (by decide) (fun _ _ _ h => h) (Or.inl ⟨by rfl, ?_⟩) (.inl (by assumption)) ?_
            rotate_left
            · intro w hSw; go_simp; try with_reducible rfl
            try simp only [Act.put, List.setIfInBounds_toArray, List.set_cons_zero, List.set_cons_succ]
            refine wpAnyG_takeU (i := 10) (oi := { dst := some 102, op := Op.fieldAddr 27 (Operand.tmp 1) 4, type := 0, pos := "ref.go:142", after := #[], guard := none }) (v := ?_) rfl (by kernel_rfl) (by kernel_rfl) (by kernel_rfl) (by decide) (fun _ _ _ h => h) (Or.inl ⟨by rfl, ?_⟩) (.inl (by assumption)) ?_
            rotate_left
            · intro w hSw; go_simp; try with_reducible rfl
            try simp only [Act.put, List.setIfInBounds_toArray, List.set_cons_zero, List.set_cons_succ]
            refine wpAnyG_takeM (i := 11) (oi := { dst := some 103, op := Op.load 24 (Operand.tmp 102), type := 24, pos := "ref.go:142", after := #[{ on := 10, ground := Ground.data }], guard := none }) (v := ?_) (ms := [13, 14, 15, 16, 17, 18]) rfl (by kernel_rfl) (by kernel_rfl) (by kernel_rfl) (by kernel_rfl) (by kernel_rfl) (fun _ _ _ h => h) (Or.inl ⟨by rfl, ?_⟩) (by assumption) ?_
            rotate_left
            · intro w hSw; (try dsimp only at hSw); go_simp; try with_reducible rfl
            try simp only [Act.put, List.setIfInBounds_toArray, List.set_cons_zero, List.set_cons_succ]
            refine wpAnyG_takeU (i := 12) (oi := { dst := some 104, op := Op.move (Operand.tmp 6), type := 3, pos := "ref.go:142", after := #[], guard := none }) (v := ?_) rfl (by kernel_rfl) (by kernel_rfl) (by kernel_rfl) (by decide) (fun _ _ _ h => h) (Or.inl ⟨by rfl, ?_⟩) (.inl (by assumption)) ?_
            rotate_left
            · intro w hSw; go_simp; try with_reducible rfl
            try simp only [Act.put, List.setIfInBounds_toArray, List.set_cons_zero, List.set_cons_succ]
            refine wpAnyG_takeU (i := 13) (oi := { dst := some 105, op := Op.indexAddr 24 (Operand.tmp 103) (Operand.tmp 104), type := 0, pos := "ref.go:142", after := #[{ on := 11, ground := Ground.data }, { on := 12, ground := Ground.data }], guard := none }) (v := ?_) rfl (by kernel_rfl) (by kernel_rfl) (by kernel_rfl) (by decide) (fun _ _ _ h => h) (Or.inl ⟨by rfl, ?_⟩) (.inl (by assumption)) ?_
            rotate_left
            · intro w hSw; go_simp; try with_reducible rfl
            try simp only [Act.put, List.setIfInBounds_toArray, List.set_cons_zero, List.set_cons_succ]
            refine wpAnyG_takeU (i := 14) (oi := { dst := some 106, op := Op.fieldAddr 48 (Operand.tmp 105) 1, type := 0, pos := "ref.go:142", after := #[{ on := 13, ground := Ground.data }], guard := none }) (v := ?_) rfl (by kernel_rfl) (by kernel_rfl) (by kernel_rfl) (by decide) (fun _ _ _ h => h) (Or.inl ⟨by rfl, ?_⟩) (.inl (by assumption)) ?_
            rotate_left
            · intro w hSw; go_simp; try with_reducible rfl
            try simp only [Act.put, List.setIfInBounds_toArray, List.set_cons_zero, List.set_cons_succ]
            refine wpAnyG_takeM (i := 15) (oi := { dst := some 107, op := Op.load 2 (Operand.tmp 106), type := 2, pos := "ref.go:142", after := #[{ on := 14, ground := Ground.data }], guard := none }) (v := ?_) (ms := [16, 17, 18]) rfl (by kernel_rfl) (by kernel_rfl) (by kernel_rfl) (by kernel_rfl) (by kernel_rfl) (fun _ _ _ h => h) (Or.inl ⟨by rfl, ?_⟩) (by assumption) ?_
            rotate_left
            · intro w hSw; (try dsimp only at hSw); go_simp; try with_reducible rfl
            try simp only [Act.put, List.setIfInBounds_toArray, List.set_cons_zero, List.set_cons_succ]
            refine wpAnyG_takeU (i := 16) (oi := { dst := some 108, op := Op.convert 2 22 (Operand.tmp 107), type := 22, pos := "ref.go:142", after := #[{ on := 15, ground := Ground.data }], guard := none }) (v := ?_) rfl (by kernel_rfl) (by kernel_rfl) (by kernel_rfl) (by decide) (fun _ _ _ h => h) (Or.inl ⟨by rfl, ?_⟩) (.inl (by assumption)) ?_
            rotate_left
            · intro w hSw; go_simp; try with_reducible rfl
            try simp only [Act.put, List.setIfInBounds_toArray, List.set_cons_zero, List.set_cons_succ]
            refine wpAnyG_one (i := 8) (o := { dst := some 100, op := Op.buildSlice 52 1 #[(0, Operand.tmp 99)], type := 52, pos := "ref.go:142", after := #[{ on := 7, ground := Ground.data }], guard := none }) (by kernel_rfl) rfl (fun K hK => ?_)
            go_simp
            have hbn := (Below.refl wd.heap.size wd).alloc (Nat.le_refl _) (.cells #[.int .u8 y.cd] 5 (0, 0))
            have HY := Lib.hid (HY.out.below hbn)
            have HR := Lib.hid ((hbn.block _ (block_lt HR.out)).trans HR.out)
            have HLB := Lib.hid (bs_lits (W := wd.alloc (.cells #[.int .u8 y.cd] 5 (0, 0))) (new_rowW _ _ _ rfl) [y.cd] (by simp) (by intro z hz; simp only [List.mem_cons, List.not_mem_nil, or_false] at hz; rcases hz with rfl <;> first | exact FC.out.1) rfl)
            clear hbn
            have hHeld := (show (wd.alloc (.cells #[.int .u8 y.cd] 5 (0, 0))).cell? ⟨eb, ef + j * 2, none⟩ = some (.int .i64 y.cd) ∧ (wd.alloc (.cells #[.int .u8 y.cd] 5 (0, 0))).cell? ⟨eb, ef + j * 2 + 1, none⟩ = some (.int .i64 y.am) ∧ (wd.alloc (.cells #[.int .u8 y.cd] 5 (0, 0))).cell? ⟨w.heap.size, 4, none⟩ = some (.slice (some ⟨eb, ef, none⟩) x.n x.c) from ⟨(tx_at HTS.out HY.out.b HX.out HXP.out).1, (tx_at HTS.out HY.out.b HX.out HXP.out).2, (by rw [← HXP.out]; exact cell_of_row _ w.heap.size 4 _ _ _ HR.out)⟩)
            refine hK.out _ _ (.inl hHeld) ?_
            clear hK K
            try simp only [Act.put, List.setIfInBounds_toArray, List.set_cons_zero, List.set_cons_succ]
            generalize wd.alloc (.cells #[.int .u8 y.cd] 5 (0, 0)) = wb at *
            refine wpAnyG_one (i := 9) (o := { dst := some 101, op := Op.call { callee := Callee.builtin Builtin.append, args := #[Operand.tmp 92, Operand.tmp 100], argTypes := #[52, 52] }, type := 52, pos := "ref.go:142", after := #[{ on := 0, ground := Ground.data }, { on := 8, ground := Ground.data }], guard := none }) (by kernel_rfl) rfl (fun K hK => ?_)
            refine step_append_bytesT rfl _ _ rfl w.heap.size _ _ _ rfl HY.out.o _ _ rfl HLB.out (by have := HY.out.l; have hl := lits_len [y.cd]; simp only [List.length_cons, List.length_nil] at hl; omega) HY.out.b.size ?_
            intro u wq hown hg
            have HYO := HY
            have HY := Lib.hid (HYO.out.app hown hg (1) (lits_len [y.cd]))
            have HR := Lib.hid (HYO.out.row hg HR.out (by decide))
            clear hown hg HYO HLB
            have hHeld := (show wq.cell? ⟨eb, ef + j * 2, none⟩ = some (.int .i64 y.cd) ∧ wq.cell? ⟨eb, ef + j * 2 + 1, none⟩ = some (.int .i64 y.am) ∧ wq.cell? ⟨w.heap.size, 4, none⟩ = some (.slice (some ⟨eb, ef, none⟩) x.n x.c) from ⟨(tx_at HTS.out HY.out.b HX.out HXP.out).1, (tx_at HTS.out HY.out.b HX.out HXP.out).2, (by rw [← HXP.out]; exact cell_of_row _ w.heap.size 4 _ _ _ HR.out)⟩)
            refine hK.out _ _ (.inl hHeld) ?_
            clear hK K
            try simp only [Act.put, List.setIfInBounds_toArray, List.set_cons_zero, List.set_cons_succ]
            refine wpAnyG_one (i := 17) (o := { dst := some 109, op := Op.call { callee := Callee.value (Operand.func 72), args := #[Operand.tmp 101, Operand.tmp 108, Operand.const (Value.int IntKind.i64 8)], argTypes := #[52, 22, 3] }, type := 52, pos := "ref.go:142", after := #[{ on := 9, ground := Ground.data }, { on := 16, ground := Ground.data }, { on := 9, ground := Ground.chain }], guard := none }) (by kernel_rfl) rfl (fun K hK => ?_)
            go_simp
            go_at_call 72
            refine (put13_any w.heap.size _ _ y.am 8 (by decide) FC.out.2 (by decide) (by have := HY.out.l; omega) _ HY.out.b.size HY.out.o).mono ?_
            rintro e wq ⟨u, rfl, hown, hg⟩
            have HYO := HY
            have HY := Lib.hid (HYO.out.grown hown hg (8) (Wire.be_length _ _))
            have HR := Lib.hid (HYO.out.row hg HR.out (by decide))
            clear hown hg HYO
            refine hK.out _ _ (.inr rfl) ?_
            clear hK K
            try simp only [Act.put, List.setIfInBounds_toArray, List.set_cons_zero, List.set_cons_succ]
            refine wpAnyG_takeU (i := 18) (oi := { dst := some 3, op := Op.assign (Operand.tmp 109), type := 52, pos := "ref.go:142", after := #[{ on := 17, ground := Ground.data }, { on := 17, ground := Ground.chain }, { on := 0, ground := Ground.phase }, { on := 1, ground := Ground.phase }, { on := 2, ground := Ground.phase }, { on := 3, ground := Ground.phase }, { on := 4, ground := Ground.phase }, { on := 5, ground := Ground.phase }, { on := 6, ground := Ground.phase }, { on := 7, ground := Ground.phase }, { on := 8, ground := Ground.phase }, { on := 9, ground := Ground.phase }, { on := 10, ground := Ground.phase }, { on := 11, ground := Ground.phase }, { on := 12, ground := Ground.phase }, { on := 13, ground := Ground.phase }, { on := 14, ground := Ground.phase }, { on := 15, ground := Ground.phase }, { on := 16, ground := Ground.phase }, { on := 17, ground := Ground.phase }], guard := none }) (v := ?_) rfl (by kernel_rfl) (by kernel_rfl) (by kernel_rfl) (by decide) (fun _ _ _ h => h) (Or.inl ⟨by rfl, ?_⟩) (.inr rfl) ?_
            rotate_left
            · intro w hSw; go_simp; try with_reducible rfl
            try simp only [Act.put, List.setIfInBounds_toArray, List.set_cons_zero, List.set_cons_succ]
            refine wpAnyG_done (by kernel_rfl) ?_ _
            clear hHeld
            clear k1 k2
            go_wp2_with fail
            go_roundw
            case rel => exact ⟨j + 1, by omega, by go_num, HY.out.as (by rw [Tkt.take_snocG HX.out, List.flatMap_append]; simp [Tkt.encX, List.append_assoc]) (by omega), HR.out⟩
            case measure => simp [intOf]; omega
          · have hjn : j = x.n := by omega
            subst hjn
            have hlen : t.ts.take x.n = t.ts := List.take_of_length_le (by have := HCN.out; have := HXN.out; have := HHN.out; omega)
            rw [hlen] at HY
            clear hlen
            have khn : IntKind.u8.wrap (h.n : Int) = (h.n : Int) := wrap_byte (fit_len HHN.out (by have := HML.out; omega))
            have HFH : Hid (Tkt.fitN (h.n : Int) 256) := Lib.hid (fit_len HHN.out (by have := HML.out; omega))
            have kpo : IntKind.u8.wrap t.posts = t.posts := wrap_byte FT.out.posts
            have hcc := fun j => cell_of_row wr w.heap.size j _ _ _ HR.out
            have HO1 := Lib.hid (own_below HY.out.o ((Below.refl wr.heap.size wr).alloc (Nat.le_refl _) (.cells #[.int .u8 t.posts, .int .u8 (h.n : Int)] 5 (0, 0))))
            have HB1 := Lib.hid (bs_lits (W := wr.alloc (.cells #[.int .u8 t.posts, .int .u8 (h.n : Int)] 5 (0, 0))) (new_rowW wr (.cells #[.int .u8 t.posts, .int .u8 (h.n : Int)] 5 (0, 0)) _ rfl) [t.posts, (h.n : Int)] (by simp) (by intro z hz; simp only [List.mem_cons, List.not_mem_nil, or_false] at hz; rcases hz with rfl | rfl <;> first | exact FT.out.posts | exact HFH.out) rfl)
            go_wp2_with (at_builtin; (refine wpList_append_bytes rfl _ _ rfl w.heap.size _ _ _ rfl HO1.out _ _ rfl HB1.out (by have := HY.out.l; have hl := lits_len [t.posts, (h.n : Int)]; simp only [List.length_cons, List.length_nil] at hl; omega) (by have := HY.out.b.size; simp; omega) ?_); intro u2 wq hown hg hn1 hat1; (have HYA := Lib.hid (HY.out.below ((Below.refl wr.heap.size wr).alloc (Nat.le_refl _) (.cells #[.int .u8 t.posts, .int .u8 (h.n : Int)] 5 (0, 0))))); (have HR := Lib.hid (HYA.out.row hg (row_after HR.out) (by decide))); (have HY := Lib.hid (HYA.out.app hown hg (2) (lits_len [t.posts, (h.n : Int)]))); (have HY : Hid (YW w wq u2 (((Tkt.encH t ++ Wire.be t.cs.length 1 ++ t.cs.flatMap Tkt.encC) ++ Wire.be t.ts.length 1 ++ t.ts.flatMap Tkt.encX) ++ (Wire.be t.posts.toNat 1 ++ Wire.be t.hs.length 1)) (190)) := Lib.hid (HY.out.as (by simp [Tkt.encH, HCN.out, HXN.out, HHN.out, List.append_assoc]) (by omega))); clear hown hg hn1 hat1 HYA HO1 HB1 khn kpo hcc)
            go_loopw [3, 7] (fun bv i wr => ∃ (j : Nat), j ≤ h.n ∧ i = .int .i64 j ∧ YW w wr bv (((Tkt.encH t ++ Wire.be t.cs.length 1 ++ t.cs.flatMap Tkt.encC) ++ Wire.be t.ts.length 1 ++ t.ts.flatMap Tkt.encX) ++ (Wire.be t.posts.toNat 1 ++ Wire.be t.hs.length 1) ++ (t.hs.take j).flatMap Tkt.encE) (190 + 7 * j) ∧ wr.heap[w.heap.size]? = some (.cells #[.int .u64 t.num, .string t.loc, .int .i64 t.iss, .slice c.p c.n c.c, .slice x.p x.n x.c, .int .u64 t.prev, .int .u64 t.org, .int .u64 t.fst, .int .i64 t.vou, .int .i64 t.posts, .slice h.p h.n h.c] 27 (0, 0))) (fun _ i _ => h.n - (intOf i).toNat)
            case atStart => exact ⟨0, Nat.zero_le _, rfl, HY.out.as (by simp) (by omega), HR.out⟩
            case round =>
              obtain ⟨j, hj, rfl, hy, hr⟩ := hrel
              have HY := Lib.hid hy
              have HR := Lib.hid hr
              clear hy hr
              have hnb : h.n ≤ 60 := by have := HML.out; have := HCN.out; have := HXN.out; have := HHN.out; omega
              by_cases hlt : j < h.n
              · obtain ⟨y, hy⟩ : ∃ y, t.hs[j]? = some y := ⟨_, List.getElem?_eq_getElem (by have := HCN.out; have := HXN.out; have := HHN.out; omega)⟩
                have HX := Lib.hid hy
                have FC := Lib.hid (FT.out.hs y (List.mem_of_getElem? hy))
                obtain ⟨eb, ef, hp, -, hr⟩ := (HTS.out.below HY.out.b).hs.at hy
                obtain ⟨g1, g2⟩ := loL_of hr (Evt.cells_length y)
                have g3 : y.cells = [.int .i64 y.dy, .int .i64 y.co, .int .i64 y.fr, .int .i64 y.to] := rfl
                rw [g3] at g1
                have hcs : wr.cell? ⟨w.heap.size, 10, none⟩ = some (.slice (some ⟨eb, ef, none⟩) h.n h.c) := by rw [← hp]; exact cell_of_row wr w.heap.size 10 _ _ _ HR.out
                clear g3 hr hy hp
                have tc := there_newT (w := wr) (zs := [.int .i64 0, .int .i64 0, .int .i64 0, .int .i64 0]) (e := 46) (n := 4) rfl
                have c6n : ([.int .i64 y.dy, .int .i64 y.co, .int .i64 y.fr, .int .i64 y.to] : List Value).length = 4 := rfl
                have c6c : ([.int .i64 y.dy, .int .i64 y.co, .int .i64 y.fr, .int .i64 y.to] : List Value).all (·.oneCell') = true := rfl
                go_upto_region 20 with fail
                have HP := Lib.hid (putRec (W := wr) (e := 46) (zs := [.int .i64 0, .int .i64 0, .int .i64 0, .int .i64 0]) (cs := [.int .i64 y.dy, .int .i64 y.co, .int .i64 y.fr, .int .i64 y.to]) rfl)
                have HY := Lib.hid (HY.out.below HP.out.2)
                have HR := Lib.hid ((HP.out.2.block _ (block_lt HR.out)).trans HR.out)
                have HRC := Lib.hid HP.out.1
                clear HP tc c6n c6c g1 g2 hcs
                generalize (wr.alloc (.cells #[.int .i64 0, .int .i64 0, .int .i64 0, .int .i64 0] 46 (0, 0))).setCells wr.heap.size 0 [.int .i64 y.dy, .int .i64 y.co, .int .i64 y.fr, .int .i64 y.to] = w4 at *
                generalize wr.heap.size = gc at *
                have k1 : IntKind.u64.wrap y.dy = y.dy := wrap_fit FC.out.1 (by decide)
                have k2 : IntKind.u8.wrap y.co = y.co := wrap_byte FC.out.2.1
                have k3 : IntKind.u8.wrap y.fr = y.fr := wrap_byte FC.out.2.2.1
                have k4 : IntKind.u8.wrap y.to = y.to := wrap_byte FC.out.2.2.2
                refine wp_region_G (C := fun W => (∀ j : Nat, W.cell? ⟨gc, j, none⟩ = (#[.int .i64 y.dy, .int .i64 y.co, .int .i64 y.fr, .int .i64 y.to] : Array Value)[j]?)) (s0 := 15) (by kernel_rfl) ?_
                have HY := Lib.hid (HY.out.below (Below.refl _ _).drew)
                have HR := Lib.hid (row_drewT HR.out)
                have HRC := Lib.hid (row_drewT HRC.out)
                generalize w4.drew = wd at *
                have hHeld := (show (∀ j : Nat, wd.cell? ⟨gc, j, none⟩ = (#[.int .i64 y.dy, .int .i64 y.co, .int .i64 y.fr, .int .i64 y.to] : Array Value)[j]?) from fun j => cell_of_row wd gc j _ _ _ HRC.out)
                refine wpAnyG_takeU (i := 0) (oi := { dst := some 132, op := Op.move (Operand.tmp 3), type := 52, pos := "ref.go:147", after := #[], guard := none }) (v := ?_) rfl (by kernel_rfl) (by kernel_rfl) (by kernel_rfl) (by decide) (fun _ _ _ h => h) (Or.inl ⟨by rfl, ?_⟩) (.inl (by assumption)) ?_
                rotate_left
                · intro w hSw; go_simp; try with_reducible rfl
                try simp only [Act.put, List.setIfInBounds_toArray, List.set_cons_zero, List.set_cons_succ]
                refine wpAnyG_takeU (i := 1) (oi := { dst := some 133, op := Op.fieldAddr 46 (Operand.tmp 8) 0, type := 0, pos := "ref.go:147", after := #[], guard := none }) (v := ?_) rfl (by kernel_rfl) (by kernel_rfl) (by kernel_rfl) (by decide) (fun _ _ _ h => h) (Or.inl ⟨by rfl, ?_⟩) (.inl (by assumption)) ?_
                rotate_left
                · intro w hSw; go_simp; try with_reducible rfl
                try simp only [Act.put, List.setIfInBounds_toArray, List.set_cons_zero, List.set_cons_succ]
                refine wpAnyG_takeM (i := 2) (oi := { dst := some 134, op := Op.load 3 (Operand.tmp 133), type := 3, pos := "ref.go:147", after := #[{ on := 1, ground := Ground.data }], guard := none }) (v := ?_) (ms := [3, 4, 15, 16]) rfl (by kernel_rfl) (by kernel_rfl) (by kernel_rfl) (by kernel_rfl) (by kernel_rfl) (fun _ _ _ h => h) (Or.inl ⟨by rfl, ?_⟩) (by assumption) ?_
                rotate_left
                · intro w hSw; (try dsimp only at hSw); go_simp; try with_reducible rfl
                try simp only [Act.put, List.setIfInBounds_toArray, List.set_cons_zero, List.set_cons_succ]
                refine wpAnyG_takeU (i := 3) (oi := { dst := some 135, op := Op.convert 3 22 (Operand.tmp 134), type := 22, pos := "ref.go:147", after := #[{ on := 2, ground := Ground.data }], guard := none }) (v := ?_) rfl (by kernel_rfl) (by kernel_rfl) (by kernel_rfl) (by decide) (fun _ _ _ h => h) (Or.inl ⟨by rfl, ?_⟩) (.inl (by assumption)) ?_
                rotate_left
                · intro w hSw; go_simp; try with_reducible rfl
                try simp only [Act.put, List.setIfInBounds_toArray, List.set_cons_zero, List.set_cons_succ]
                refine wpAnyG_takeU (i := 5) (oi := { dst := some 137, op := Op.fieldAddr 46 (Operand.tmp 8) 1, type := 0, pos := "ref.go:147", after := #[], guard := none }) (v := ?_) rfl (by kernel_rfl) (by kernel_rfl) (by kernel_rfl) (by decide) (fun _ _ _ h => h) (Or.inl ⟨by rfl, ?_⟩) (.inl (by assumption)) ?_
                rotate_left
                · intro w hSw; go_simp; try with_reducible rfl
                try simp only [Act.put, List.setIfInBounds_toArray, List.set_cons_zero, List.set_cons_succ]
                refine wpAnyG_takeM (i := 6) (oi := { dst := some 138, op := Op.load 3 (Operand.tmp 137), type := 3, pos := "ref.go:147", after := #[{ on := 5, ground := Ground.data }], guard := none }) (v := ?_) (ms := [7, 14, 15, 16]) rfl (by kernel_rfl) (by kernel_rfl) (by kernel_rfl) (by kernel_rfl) (by kernel_rfl) (fun _ _ _ h => h) (Or.inl ⟨by rfl, ?_⟩) (by assumption) ?_
                rotate_left
                · intro w hSw; (try dsimp only at hSw); go_simp; try with_reducible rfl
                try simp only [Act.put, List.setIfInBounds_toArray, List.set_cons_zero, List.set_cons_succ]
                refine wpAnyG_takeU (i := 7) (oi := { dst := some 139, op := Op.convert 3 5 (Operand.tmp 138), type := 5, pos := "ref.go:147", after := #[{ on := 6, ground := Ground.data }], guard := none }) (v := ?_) rfl (by kernel_rfl) (by kernel_rfl) (by kernel_rfl) (by decide) (fun _ _ _ h => h) (Or.inl ⟨by rfl, ?_⟩) (.inl (by assumption)) ?_
                rotate_left
                · intro w hSw; go_simp; try with_reducible rfl
                try simp only [Act.put, List.setIfInBounds_toArray, List.set_cons_zero, List.set_cons_succ]
                refine wpAnyG_takeU (i := 8) (oi := { dst := some 140, op := Op.fieldAddr 46 (Operand.tmp 8) 2, type := 0, pos := "ref.go:147", after := #[], guard := none }) (v := ?_) rfl (by kernel_rfl) (by kernel_rfl) (by kernel_rfl) (by decide) (fun _ _ _ h => h) (Or.inl ⟨by rfl, ?_⟩) (.inl (by assumption)) ?_
                rotate_left
                · intro w hSw; go_simp; try with_reducible rfl
                try simp only [Act.put, List.setIfInBounds_toArray, List.set_cons_zero, List.set_cons_succ]
                refine wpAnyG_takeM (i := 9) (oi := { dst := some 141, op := Op.load 35 (Operand.tmp 140), type := 35, pos := "ref.go:147", after := #[{ on := 8, ground := Ground.data }], guard := none }) (v := ?_) (ms := [10, 14, 15, 16]) rfl (by kernel_rfl) (by kernel_rfl) (by kernel_rfl) (by kernel_rfl) (by kernel_rfl) (fun _ _ _ h => h) (Or.inl ⟨by rfl, ?_⟩) (by assumption) ?_
                rotate_left
                · intro w hSw; (try dsimp only at hSw); go_simp; try with_reducible rfl
                try simp only [Act.put, List.setIfInBounds_toArray, List.set_cons_zero, List.set_cons_succ]
                refine wpAnyG_takeU (i := 10) (oi := { dst := some 142, op := Op.convert 35 5 (Operand.tmp 141), type := 5, pos := "ref.go:147", after := #[{ on := 9, ground := Ground.data }], guard := none }) (v := ?_) rfl (by kernel_rfl) (by kernel_rfl) (by kernel_rfl) (by decide) (fun _ _ _ h => h) (Or.inl ⟨by rfl, ?_⟩) (.inl (by assumption)) ?_
                rotate_left
                · intro w hSw; go_simp; try with_reducible rfl
                try simp only [Act.put, List.setIfInBounds_toArray, List.set_cons_zero, List.set_cons_succ]
                refine wpAnyG_takeU (i := 11) (oi := { dst := some 143, op := Op.fieldAddr 46 (Operand.tmp 8) 3, type := 0, pos := "ref.go:147", after := #[], guard := none }) (v := ?_) rfl (by kernel_rfl) (by kernel_rfl) (by kernel_rfl) (by decide) (fun _ _ _ h => h) (Or.inl ⟨by rfl, ?_⟩) (.inl (by assumption)) ?_
                rotate_left
                · intro w hSw; go_simp; try with_reducible rfl
                try simp only [Act.put, List.setIfInBounds_toArray, List.set_cons_zero, List.set_cons_succ]
                refine wpAnyG_takeM (i := 12) (oi := { dst := some 144, op := Op.load 35 (Operand.tmp 143), type := 35, pos := "ref.go:147", after := #[{ on := 11, ground := Ground.data }], guard := none }) (v := ?_) (ms := [13, 14, 15, 16]) rfl (by kernel_rfl) (by kernel_rfl) (by kernel_rfl) (by kernel_rfl) (by kernel_rfl) (fun _ _ _ h => h) (Or.inl ⟨by rfl, ?_⟩) (by assumption) ?_
                rotate_left
                · intro w hSw; (try dsimp only at hSw); go_simp; try with_reducible rfl
                try simp only [Act.put, List.setIfInBounds_toArray, List.set_cons_zero, List.set_cons_succ]
                refine wpAnyG_takeU (i := 13) (oi := { dst := some 145, op := Op.convert 35 5 (Operand.tmp 144), type := 5, pos := "ref.go:147", after := #[{ on := 12, ground := Ground.data }], guard := none }) (v := ?_) rfl (by kernel_rfl) (by kernel_rfl) (by kernel_rfl) (by decide) (fun _ _ _ h => h) (Or.inl ⟨by rfl, ?_⟩) (.inl (by assumption)) ?_
                rotate_left
                · intro w hSw; go_simp; try with_reducible rfl
                try simp only [Act.put, List.setIfInBounds_toArray, List.set_cons_zero, List.set_cons_succ]
                refine cutK (J := ?J20) ?h20 ?k20
                case h20 =>
                  intro hJ
                  have HJ := Lib.hid hJ
                  clear hJ
                  refine wpAnyG_two (i := 4) (oi := { dst := some 136, op := Op.call { callee := Callee.value (Operand.func 72), args := #[Operand.tmp 132, Operand.tmp 135, Operand.const (Value.int IntKind.i64 4)], argTypes := #[52, 22, 3] }, type := 52, pos := "ref.go:147", after := #[{ on := 0, ground := Ground.data }, { on := 3, ground := Ground.data }], guard := none }) (j := 14) (oj := { dst := some 146, op := Op.buildSlice 52 3 #[(0, Operand.tmp 139), (1, Operand.tmp 142), (2, Operand.tmp 145)], type := 52, pos := "ref.go:147", after := #[{ on := 7, ground := Ground.data }, { on := 10, ground := Ground.data }, { on := 13, ground := Ground.data }], guard := none }) (by kernel_rfl) rfl rfl (fun K hK => ?_) (fun K hK => ?_)
                  · go_simp
                    go_at_call 72
                    refine (put13_any w.heap.size _ _ y.dy 4 (by decide) FC.out.1 (by decide) (by have := HY.out.l; omega) _ HY.out.b.size HY.out.o).mono ?_
                    rintro e wq ⟨u, rfl, hown, hg⟩
                    have HYO := HY
                    have HY := Lib.hid (HYO.out.grown hown hg (4) (Wire.be_length _ _))
                    have HR := Lib.hid (HYO.out.row hg HR.out (by decide))
                    have HRC := Lib.hid (HYO.out.row hg HRC.out (by decide))
                    clear hown hg HYO
                    have hHeld := (show (∀ j : Nat, wq.cell? ⟨gc, j, none⟩ = (#[.int .i64 y.dy, .int .i64 y.co, .int .i64 y.fr, .int .i64 y.to] : Array Value)[j]?) from fun j => cell_of_row wq gc j _ _ _ HRC.out)
                    refine hK.out _ _ (.inl hHeld) ?_
                    clear hK K
                    try simp only [Act.put, List.setIfInBounds_toArray, List.set_cons_zero, List.set_cons_succ]
                    refine wpAnyG_one (i := 14) (o := { dst := some 146, op := Op.buildSlice 52 3 #[(0, Operand.tmp 139), (1, Operand.tmp 142), (2, Operand.tmp 145)], type := 52, pos := "ref.go:147", after := #[{ on := 7, ground := Ground.data }, { on := 10, ground := Ground.data }, { on := 13, ground := Ground.data }], guard := none }) (by kernel_rfl) rfl (fun K hK => ?_)
                    go_simp
                    have hbn := (Below.refl wq.heap.size wq).alloc (Nat.le_refl _) (.cells #[.int .u8 y.co, .int .u8 y.fr, .int .u8 y.to] 5 (0, 0))
                    replace HY := Lib.hid (HY.out.below hbn)
                    have HR := Lib.hid ((hbn.block _ (block_lt HR.out)).trans HR.out)
                    have HRC := Lib.hid ((hbn.block _ (block_lt HRC.out)).trans HRC.out)
                    have HTR := Lib.hid (new_rowW wq (.cells #[.int .u8 y.co, .int .u8 y.fr, .int .u8 y.to] 5 (0, 0)) _ rfl)
                    clear hbn
                    have hHeld := (show (∀ j : Nat, (wq.alloc (.cells #[.int .u8 y.co, .int .u8 y.fr, .int .u8 y.to] 5 (0, 0))).cell? ⟨gc, j, none⟩ = (#[.int .i64 y.dy, .int .i64 y.co, .int .i64 y.fr, .int .i64 y.to] : Array Value)[j]?) from fun j => cell_of_row _ gc j _ _ _ HRC.out)
                    refine hK.out _ _ (.inl hHeld) ?_
                    clear hK K
                    try simp only [Act.put, List.setIfInBounds_toArray, List.set_cons_zero, List.set_cons_succ]
                    clear hHeld
                    generalize wq.alloc (.cells #[.int .u8 y.co, .int .u8 y.fr, .int .u8 y.to] 5 (0, 0)) = Y at HY HR HRC HTR ⊢
                    generalize wq.heap.size = gb at HTR ⊢
                    revert HY HR HRC HTR
                    revert Y gb u
                    exact HJ.out
                  · go_simp
                    have hbn := (Below.refl wd.heap.size wd).alloc (Nat.le_refl _) (.cells #[.int .u8 y.co, .int .u8 y.fr, .int .u8 y.to] 5 (0, 0))
                    have HYW := HY
                    have HY := Lib.hid (HY.out.below hbn)
                    have HR := Lib.hid ((hbn.block _ (block_lt HR.out)).trans HR.out)
                    have HRC := Lib.hid ((hbn.block _ (block_lt HRC.out)).trans HRC.out)
                    have HTR0 := Lib.hid (new_rowW wd (.cells #[.int .u8 y.co, .int .u8 y.fr, .int .u8 y.to] 5 (0, 0)) _ rfl)
                    clear hbn
                    have hHeld := (show (∀ j : Nat, (wd.alloc (.cells #[.int .u8 y.co, .int .u8 y.fr, .int .u8 y.to] 5 (0, 0))).cell? ⟨gc, j, none⟩ = (#[.int .i64 y.dy, .int .i64 y.co, .int .i64 y.fr, .int .i64 y.to] : Array Value)[j]?) from fun j => cell_of_row _ gc j _ _ _ HRC.out)
                    refine hK.out _ _ (.inl hHeld) ?_
                    clear hK K
                    try simp only [Act.put, List.setIfInBounds_toArray, List.set_cons_zero, List.set_cons_succ]
                    refine wpAnyG_one (i := 4) (o := { dst := some 136, op := Op.call { callee := Callee.value (Operand.func 72), args := #[Operand.tmp 132, Operand.tmp 135, Operand.const (Value.int IntKind.i64 4)], argTypes := #[52, 22, 3] }, type := 52, pos := "ref.go:147", after := #[{ on := 0, ground := Ground.data }, { on := 3, ground := Ground.data }], guard := none }) (by kernel_rfl) rfl (fun K hK => ?_)
                    go_simp
                    go_at_call 72
                    refine (put13_any w.heap.size _ _ y.dy 4 (by decide) FC.out.1 (by decide) (by have := HY.out.l; omega) _ HY.out.b.size HY.out.o).mono ?_
                    rintro e wq ⟨u, rfl, hown, hg⟩
                    have HYO := HY
                    have HY := Lib.hid (HYO.out.grown hown hg (4) (Wire.be_length _ _))
                    have HR := Lib.hid (HYO.out.row hg HR.out (by decide))
                    have HRC := Lib.hid (HYO.out.row hg HRC.out (by decide))
                    have HTR := Lib.hid ((hg.block _ (block_lt HTR0.out) (fun k => by have := (HYW.out.o.lt _ k.symm).2; omega)).trans HTR0.out)
                    clear HTR0 HYW
                    clear hown hg HYO
                    have hHeld := (show (∀ j : Nat, wq.cell? ⟨gc, j, none⟩ = (#[.int .i64 y.dy, .int .i64 y.co, .int .i64 y.fr, .int .i64 y.to] : Array Value)[j]?) from fun j => cell_of_row wq gc j _ _ _ HRC.out)
                    refine hK.out _ _ (.inl hHeld) ?_
                    clear hK K
                    try simp only [Act.put, List.setIfInBounds_toArray, List.set_cons_zero, List.set_cons_succ]
                    clear hHeld
                    generalize wq = Y at HY HR HRC HTR ⊢
                    generalize wd.heap.size = gb at HTR ⊢
                    revert HY HR HRC HTR
                    revert Y gb u
                    exact HJ.out
                case k20 =>
                  intro u Y gb HY HR HRC HTR
                  have HLB := Lib.hid (bs_lits HTR.out [y.co, y.fr, y.to] (by simp) (by intro z hz; simp only [List.mem_cons, List.not_mem_nil, or_false] at hz; rcases hz with rfl | rfl | rfl <;> first | exact FC.out.2.1 | exact FC.out.2.2.1 | exact FC.out.2.2.2) rfl)
                  have hHeld := (show (∀ j : Nat, Y.cell? ⟨gc, j, none⟩ = (#[.int .i64 y.dy, .int .i64 y.co, .int .i64 y.fr, .int .i64 y.to] : Array Value)[j]?) from fun j => cell_of_row Y gc j _ _ _ HRC.out)
                  clear HTR
                  refine wpAnyG_one (i := 15) (o := { dst := some 147, op := Op.call { callee := Callee.builtin Builtin.append, args := #[Operand.tmp 136, Operand.tmp 146], argTypes := #[52, 52] }, type := 52, pos := "ref.go:147", after := #[{ on := 4, ground := Ground.data }, { on := 14, ground := Ground.data }, { on := 4, ground := Ground.chain }], guard := none }) (by kernel_rfl) rfl (fun K hK => ?_)
                  refine step_append_bytesT rfl _ _ rfl w.heap.size _ _ _ rfl HY.out.o _ _ rfl HLB.out (by have := HY.out.l; have hl := lits_len [y.co, y.fr, y.to]; simp only [List.length_cons, List.length_nil] at hl; omega) HY.out.b.size ?_
                  intro u2 wq hown hg
                  have HYO := HY
                  have HY := Lib.hid (HYO.out.app hown hg (3) (lits_len [y.co, y.fr, y.to]))
                  have HR := Lib.hid (HYO.out.row hg HR.out (by decide))
                  have HRC := Lib.hid (HYO.out.row hg HRC.out (by decide))
                  clear hown hg HYO HLB
                  refine hK.out _ _ (.inr rfl) ?_
                  clear hK K
                  try simp only [Act.put, List.setIfInBounds_toArray, List.set_cons_zero, List.set_cons_succ]
                  refine wpAnyG_takeU (i := 16) (oi := { dst := some 3, op := Op.assign (Operand.tmp 147), type := 52, pos := "ref.go:147", after := #[{ on := 15, ground := Ground.data }, { on := 15, ground := Ground.chain }, { on := 0, ground := Ground.phase }, { on := 1, ground := Ground.phase }, { on := 2, ground := Ground.phase }, { on := 3, ground := Ground.phase }, { on := 4, ground := Ground.phase }, { on := 5, ground := Ground.phase }, { on := 6, ground := Ground.phase }, { on := 7, ground := Ground.phase }, { on := 8, ground := Ground.phase }, { on := 9, ground := Ground.phase }, { on := 10, ground := Ground.phase }, { on := 11, ground := Ground.phase }, { on := 12, ground := Ground.phase }, { on := 13, ground := Ground.phase }, { on := 14, ground := Ground.phase }, { on := 15, ground := Ground.phase }], guard := none }) (v := ?_) rfl (by kernel_rfl) (by kernel_rfl) (by kernel_rfl) (by decide) (fun _ _ _ h => h) (Or.inl ⟨by rfl, ?_⟩) (.inr rfl) ?_
                  rotate_left
                  · intro w hSw; go_simp; try with_reducible rfl
                  try simp only [Act.put, List.setIfInBounds_toArray, List.set_cons_zero, List.set_cons_succ]
                  refine wpAnyG_done (by kernel_rfl) ?_ _
                  clear hHeld
                  clear k1 k2 k3 k4 HRC
                  go_wp2_with fail
                  go_roundw
                  case rel => exact ⟨j + 1, by omega, by go_num, HY.out.as (by rw [Tkt.take_snocG HX.out, List.flatMap_append]; simp [Tkt.encE, List.append_assoc]) (by omega), HR.out⟩
                  case measure => simp [intOf]; omega
              · have hjn : j = h.n := by omega
                subst hjn
                have hlen : t.hs.take h.n = t.hs := List.take_of_length_le (by have := HCN.out; have := HXN.out; have := HHN.out; omega)
                rw [hlen] at HY
                clear hlen
                have hcc := fun j => cell_of_row wr w.heap.size j _ _ _ HR.out
                go_wp2_with fail
                go_ret
                exact ⟨_, rfl, enc_end (HY.out.as rfl (Nat.le_refl _)), HY.out.b⟩

end Go.Proofs.Ytmadkfahkbdibaa

set_option linter.unusedVariables false
set_option linter.unusedSimpArgs false
namespace Go.Proofs.Ytmadkfahkbdibaa
open Go.RowKit

theorem BS.head {w : World} {p : Option Addr} {n cap k : Nat} {l : List UInt8} (h : BS w (.slice p n cap) l) (hk : k ≤ l.length) : BS w (.slice p k cap) (l.take k) := by
  obtain ⟨p', cap', e, h1, h2, h3⟩ := h
  injection e with e1 e2 e3
  subst e1; subst e3
  have hl : (l.take k).length = k := by rw [List.length_take]; omega
  refine ⟨_, _, by rw [hl], by omega, h2, fun hne => ?_⟩
  obtain ⟨b, o, e, hb, hc⟩ := h3 (fun h => hne (by rw [h]; simp))
  refine ⟨b, o, e, hb, fun i x hx => hc i x ?_⟩
  have hi : i < k := by have := (List.getElem?_eq_some_iff.1 hx).1; omega
  rwa [List.getElem?_take_of_lt hi] at hx
theorem BS.bounds' {w : World} {q : Option Addr} {n cap : Nat} {l : List UInt8} (h : BS w (.slice q n cap) l) : n = l.length ∧ n ≤ cap ∧ cap ≤ maxLen := by
  obtain ⟨p', cap', e, h1, h2, h3⟩ := h
  injection e with e1 e2 e3
  subst e1; subst e3
  exact ⟨e2, by omega, h2⟩
theorem BS.drewN' {w : World} {v : Value} {l : List UInt8} (h : BS w v l) (n : Nat) : BS (w.drewN n) v l := h.below (below_drewN w n)
/-- where a slice's tail lies -/
def tailAt (p : Option Addr) (cap k : Nat) : Option Addr := if cap - k = 0 then p.map fun a => a else p.map fun a => a.add k
theorem BS.tail {w : World} {p : Option Addr} {n cap k : Nat} {l : List UInt8} (h : BS w (.slice p n cap) l) (hk : k ≤ l.length) : BS w (.slice (tailAt p cap k) (n - k) (cap - k)) (l.drop k) := by
  obtain ⟨p', cap', e, h1, h2, h3⟩ := h
  injection e with e1 e2 e3
  subst e1; subst e3; subst e2
  have hl : (l.drop k).length = l.length - k := by rw [List.length_drop]
  refine ⟨_, _, by rw [hl], by omega, by omega, fun hne => ?_⟩
  have hlt : k < l.length := by
    rcases Nat.lt_or_ge k l.length with h | h
    · exact h
    · exact absurd (List.drop_of_length_le h) hne
  obtain ⟨b, o, rfl, hb, hc⟩ := h3 (fun h => by rw [h] at hlt; simp at hlt)
  refine ⟨b, o + k, ?_, hb, fun i x hx => ?_⟩
  · unfold tailAt
    rw [if_neg (by omega), Option.map_some, Go.WideShapes.add_plain]
  · rw [List.getElem?_drop] at hx
    rw [Nat.add_assoc]
    exact hc (k + i) x hx
theorem run_head' (q : Option Addr) (n cap k : Nat) (h : k ≤ cap) (W : World) : (Instr.slice 52 (.slice q n cap) none (some (.int .i64 (k : Int))) none).run Try.prog W = .ok (.slice q k cap) W := by
  have ht : Try.prog.underlying 52 = some (.slice (Try.prog.elem 52)) := by kernel_rfl
  have hz : ∀ W : World, (sizeOf (Try.prog.elem 52)).run Try.prog W = .ok 1 W := fun W => by
    rw [show Try.prog.elem 52 = 5 from by kernel_rfl]; simp [go_sem]
  rw [run_slice_h W _ _ _ _ ht _ _ (by omega) (by omega), hz]
  cases q <;> simp [sliced, Result.andThen, Addr.add]
theorem run_tail (q : Option Addr) (n cap k : Nat) (h : k ≤ n) (h2 : n ≤ cap) (W : World) : (Instr.slice 52 (.slice q n cap) (some (.int .i64 (k : Int))) none none).run Try.prog W = .ok (.slice (tailAt q cap k) (n - k) (cap - k)) W := by
  have ht : Try.prog.underlying 52 = some (.slice (Try.prog.elem 52)) := by kernel_rfl
  have hz : ∀ W : World, (sizeOf (Try.prog.elem 52)).run Try.prog W = .ok 1 W := fun W => by
    rw [show Try.prog.elem 52 = 5 from by kernel_rfl]; simp [go_sem]
  rw [run_slice_l W _ _ _ _ ht _ _ (by omega) (by omega), hz]
  unfold tailAt
  by_cases hc : cap - k = 0
  · cases q <;> simp [sliced, Result.andThen, hc]
    intro h; omega
  · cases q <;> simp [sliced, Result.andThen, hc]
    intro h; omega

def tCut (b : List UInt8) (n : Int) : Option (List UInt8 × List UInt8) := if 0 ≤ n ∧ n ≤ b.length then some (b.take n.toNat, b.drop n.toNat) else none
def cutX (b : List UInt8) (n : Int) : List UInt8 := ((tCut b n).map Prod.fst).getD []
def cutY (b : List UInt8) (n : Int) : List UInt8 := ((tCut b n).map Prod.snd).getD []

set_option maxRecDepth 4000 in
set_option maxHeartbeats 1000000 in
theorem rCut_any (v : Value) (b : List UInt8) (n : Int) (w : World) (hv : BS w v b) :
    Calls Try.prog 138 #[v, .int .i64 n] w fun e w' => ∃ x y, e = .returned (.tuple #[x, y, .bool (tCut b n).isSome]) ∧ (∀ w0, BS w0 v b → BS w0 x (cutX b n) ∧ BS w0 y (cutY b n)) ∧ ∃ nd, w' = w.drewN nd := by
  have HV := Lib.hid hv
  by_cases hf : 0 ≤ n ∧ n ≤ b.length
  · obtain ⟨k, rfl⟩ := Int.eq_ofNat_of_zero_le hf.1
    have hk : k ≤ b.length := by omega
    have HT : Hid (tCut b (k : Int) = some (b.take k, b.drop k)) := Lib.hid (by unfold tCut; rw [if_pos hf, Int.toNat_natCast])
    have HXY : Hid (cutX b (k : Int) = b.take k ∧ cutY b (k : Int) = b.drop k) := Lib.hid (by unfold cutX cutY; rw [HT.out]; exact ⟨rfl, rfl⟩)
    rw [HT.out, HXY.out.1, HXY.out.2]
    obtain ⟨p, cap, rfl, g1, g2, -⟩ := hv
    have HXY2 := Lib.hid (fun w0 (h0 : BS w0 (.slice p b.length cap) b) => (⟨h0.head hk, h0.tail hk⟩ : BS w0 _ _ ∧ BS w0 _ _))
    have f1 := run_head' p b.length cap k (by omega)
    have f2 := run_tail p b.length cap k hk g1
    unfold maxLen at g2
    rw [show (some (b.take k, b.drop k)).isSome = true from rfl]
    clear HT HXY hf
    generalize tailAt p cap k = q at *
    generalize b.length = m at *
    go_enter Try.func138, Try.ntmps138
    go_wp2_with fail
    go_quiet (fail)
    go_wp2
    go_ret3
    exact ⟨_, _, rfl, HXY2.out, _, rfl⟩
  · have HT : Hid (tCut b n = none) := Lib.hid (if_neg hf)
    have HXY : Hid (cutX b n = [] ∧ cutY b n = []) := Lib.hid (by unfold cutX cutY; rw [HT.out]; exact ⟨rfl, rfl⟩)
    rw [HT.out, HXY.out.1, HXY.out.2]
    obtain ⟨p, cap, rfl, g1, g2, -⟩ := hv
    unfold maxLen at g2
    rw [show (none : Option (List UInt8 × List UInt8)).isSome = false from rfl]
    clear HT HXY
    generalize b.length = m at *
    by_cases h0 : n < 0
    · go_enter Try.func138, Try.ntmps138
      go_wp2
      go_ret3
      exact ⟨_, _, rfl, fun _ _ => ⟨BS.nil _, BS.nil _⟩, 0, rfl⟩
    · have h1 : (m : Int) < n := by omega
      go_enter Try.func138, Try.ntmps138
      go_wp2
      go_ret3
      exact ⟨_, _, rfl, fun _ _ => ⟨BS.nil _, BS.nil _⟩, 0, rfl⟩

theorem maySize_rSize (s : Int) : Wire.maySize s = rSize s := by
  unfold Wire.maySize rSize
  rw [Bool.eq_iff_iff]; simp
/-- a number that is taken off *-/
def tNum (b : List UInt8) (s : Int) : Option (Nat × List UInt8) := if rSize s then (tCut b s).map fun p => (beVal p.1, p.2) else none
def numV (b : List UInt8) (s : Int) : Nat := ((tNum b s).map Prod.fst).getD 0
def numR (b : List UInt8) (s : Int) : List UInt8 := ((tNum b s).map Prod.snd).getD []
theorem rNum_t (l : List UInt8) (s : Int) : rNumS (some l) s = (tNum l s).map Prod.snd ∧ rNumV (some l) s = numV l s := by
  unfold rNumS rNumV numV tNum rBy rTake rRest tCut
  by_cases h : rSize s = true
  · by_cases h2 : 0 ≤ s ∧ s ≤ l.length
    · simp [h, h2]
    · simp [h, h2]; rfl
  · simp [h]
theorem sum_step (x : List UInt8) (k i : Nat) (c : UInt8) (hk : k ≤ 8) (hx : x.length = k) (h : x[i]? = some c) :
    c.toNat * 256 ^ (k - 1 - i) < 18446744073709551616 ∧ beVal (x.take i) * 256 ^ (k - i) + c.toNat * 256 ^ (k - 1 - i) = beVal (x.take (i + 1)) * 256 ^ (k - (i + 1)) ∧ beVal (x.take (i + 1)) * 256 ^ (k - (i + 1)) < 18446744073709551616 := by
  have hi := (List.getElem?_eq_some_iff.1 h).1
  have h1 : beVal (x.take (i + 1)) = beVal (x.take i) * 256 + c.toNat := (beVal_step h (by omega)).2
  have h2 : k - 1 - i = k - (i + 1) := by omega
  have h3 : k - i = (k - (i + 1)) + 1 := by omega
  have h4 := beVal_lt (i + 1) (x.take (i + 1)) (by rw [List.length_take]; omega)
  have h5 : beVal (x.take (i + 1)) * 256 ^ (k - (i + 1)) < 18446744073709551616 := by
    have h6 : beVal (x.take (i + 1)) * 256 ^ (k - (i + 1)) < 256 ^ (i + 1) * 256 ^ (k - (i + 1)) := Nat.mul_lt_mul_of_pos_right h4 (Nat.pow_pos (by decide))
    rw [← Nat.pow_add] at h6
    have h7 : 256 ^ (i + 1 + (k - (i + 1))) ≤ 256 ^ 8 := Nat.pow_le_pow_right (by decide) (by omega)
    exact Nat.lt_of_lt_of_le h6 h7
  have h8 : beVal (x.take i) * 256 ^ (k - i) + c.toNat * 256 ^ (k - 1 - i) = beVal (x.take (i + 1)) * 256 ^ (k - (i + 1)) := by
    rw [h1, h2, h3, Nat.pow_succ, Nat.add_mul, Nat.mul_assoc, Nat.mul_comm 256]
  exact ⟨by omega, h8, h5⟩

set_option maxRecDepth 4000 in
set_option maxHeartbeats 1000000 in
theorem rTakeNumber_any (v : Value) (b : List UInt8) (s : Int) (w : World) (hv : BS w v b) :
    Calls Try.prog 137 #[v, .int .i64 s] w fun e w' => ∃ y, e = .returned (.tuple #[.int .u64 (numV b s : Int), y, .bool (tNum b s).isSome]) ∧ (∀ w0, BS w0 v b → BS w0 y (numR b s)) ∧ ∃ nd, w' = w.drewN nd := by
  have HM := Lib.hid (rmaySize_any s)
  rw [maySize_rSize] at HM
  have HCU := Lib.hid (rCut_any v b s w hv)
  have HVV := Lib.hid hv
  obtain ⟨p, cap, rfl, -, -, -⟩ := hv
  generalize b.length = m at *
  by_cases hs : rSize s = true
  · have h2 : ∃ k : Nat, 1 ≤ k ∧ k ≤ 8 ∧ s = (k : Int) := by
      unfold rSize at hs
      simp only [Bool.or_eq_true, beq_iff_eq] at hs
      exact ⟨s.toNat, by omega, by omega, by omega⟩
    obtain ⟨k, k1, k8, rfl⟩ := h2
    rw [hs] at HM
    cases hc : tCut b (k : Int) with
    | none =>
      have HT : Hid (tNum b (k : Int) = none) := Lib.hid (by unfold tNum; rw [if_pos hs, hc]; rfl)
      have HV : Hid (numV b (k : Int) = 0 ∧ numR b (k : Int) = []) := Lib.hid (by unfold numV numR; rw [HT.out]; exact ⟨rfl, rfl⟩)
      rw [HT.out, HV.out.1, HV.out.2, show (none : Option (Nat × List UInt8)).isSome = false from rfl]
      rw [hc, show (none : Option (List UInt8 × List UInt8)).isSome = false from rfl] at HCU
      clear HT HV hc hs
      go_enter Try.func137, Try.ntmps137
      go_wp2_with fail
      refine (HM.out _).mono ?_
      rintro e w1 ⟨rfl, rfl⟩
      go_wp2_with fail
      refine HCU.out.mono ?_
      rintro e w2 ⟨x, y, rfl, hxy, nd, rfl⟩
      obtain ⟨⟨px, cx, rfl, -, -, -⟩, ⟨py, cy, rfl, -, -, -⟩⟩ := hxy w HVV.out
      clear hxy
      go_wp2
      go_ret3
      exact ⟨_, rfl, fun _ _ => BS.nil _, _, rfl⟩
    | some q =>
      have HX : Hid (cutX b (k : Int) = q.1 ∧ cutY b (k : Int) = q.2) := Lib.hid (by unfold cutX cutY; rw [hc]; exact ⟨rfl, rfl⟩)
      have HT : Hid (tNum b (k : Int) = some (beVal q.1, q.2)) := Lib.hid (by unfold tNum; rw [if_pos hs, hc]; rfl)
      have HV : Hid (numV b (k : Int) = beVal q.1 ∧ numR b (k : Int) = q.2) := Lib.hid (by unfold numV numR; rw [HT.out]; exact ⟨rfl, rfl⟩)
      have hlen : q.1.length = k := by
        unfold tCut at hc
        split at hc
        · injection hc with hc
          subst hc
          simp only [List.length_take]; omega
        · cases hc
      rw [HT.out, HV.out.1, HV.out.2, show (some (beVal q.1, q.2) : Option (Nat × List UInt8)).isSome = true from rfl]
      rw [hc, HX.out.1, HX.out.2, show (some q : Option (List UInt8 × List UInt8)).isSome = true from rfl] at HCU
      clear HT HV HX hc hs
      obtain ⟨xl, yl⟩ := q
      have HL := Lib.hid hlen
      dsimp only at HL HCU ⊢
      clear hlen
      go_enter Try.func137, Try.ntmps137
      go_wp2_with fail
      refine (HM.out _).mono ?_
      rintro e w1 ⟨rfl, rfl⟩
      go_wp2_with fail
      refine HCU.out.mono ?_
      rintro e w2 ⟨x, y, rfl, hxy, nd0, rfl⟩
      have HYB := Lib.hid (fun w0 h0 => (hxy w0 h0).2)
      obtain ⟨hx, hy⟩ := hxy w HVV.out
      clear hxy
      obtain ⟨py, cy, rfl, -, -, -⟩ := hy
      obtain ⟨px, cx, rfl, gx1, gx2, hxc⟩ := hx
      have HXC := Lib.hid hxc
      clear hxc
      rw [HL.out] at gx1 ⊢
      generalize yl.length = ny at *
      go_wp2_with fail
      go_loopw [10, 11] (fun a i wr => (∃ nd, wr = w.drewN nd) ∧ ∃ (j A : Nat), j ≤ k ∧ i = .int .i64 (j : Int) ∧ a = .int .u64 (A : Int) ∧ A = beVal (xl.take j) * 256 ^ (k - j)) (fun _ i _ => k - (intOf i).toNat)
      case atStart => exact ⟨⟨nd0, rfl⟩, 0, 0, Nat.zero_le _, rfl, rfl, by simp [beVal]⟩
      case round =>
        obtain ⟨⟨nd, hnd⟩, j, A, hj, rfl, rfl, hA⟩ := hrel
        have HA := Lib.hid hA
        have HND := Lib.hid hnd
        clear hA hnd
        by_cases hlt : j < k
        · obtain ⟨c, hc⟩ : ∃ c, xl[j]? = some c := ⟨_, List.getElem?_eq_getElem (by have := HL.out; omega)⟩
          obtain ⟨g, o, rfl, hg, hcell⟩ := HXC.out (by intro h; rw [h] at hc; simp at hc)
          have hcell := hcell j c hc
          obtain ⟨s1, s2, s3⟩ := sum_step xl k j c k8 HL.out hc
          rw [← HA.out] at s2
          have HB := Lib.hid s2
          have HPW := Lib.hid (fun W => rpower_any (k - 1 - j) (by omega) W)
          have hP1 : 0 < 256 ^ (k - 1 - j) := Nat.pow_pos (by decide)
          generalize 256 ^ (k - 1 - j) = P at *
          generalize hAA : beVal (xl.take (j + 1)) * 256 ^ (k - (j + 1)) = A2 at *
          have HA2 := Lib.hid hAA
          have hcc := c.toNat_lt
          generalize c.toNat = cc at *
          have hz : (cc : Int) * (P : Int) = ((cc * P : Nat) : Int) := by simp
          generalize cc * P = Q at *
          have z0 : ((k - 1 - j : Nat) : Int) = (k : Int) - 1 - (j : Int) := by omega
          rw [z0] at HPW
          clear hAA hc
          go_wp2_with fail
          have hcell : wr.cell? ⟨g, o + j, none⟩ = some (.int .u8 (cc : Int)) := by rw [HND.out]; exact hcell
          have z1 : IntKind.i64.wrap ((k : Int) - 1) = (k : Int) - 1 := by rw [IntKind.wrap_i64]; omega
          have z2 : IntKind.i64.wrap ((k : Int) - 1 - (j : Int)) = (k : Int) - 1 - (j : Int) := by rw [IntKind.wrap_i64]; omega
          have z3 : IntKind.u64.wrap (cc : Int) = (cc : Int) := by rw [IntKind.wrap_u64]; omega
          have z4 : IntKind.u64.wrap (Q : Int) = (Q : Int) := by rw [IntKind.wrap_u64]; omega
          have z5 : (cc : Int) * (P : Int) = (Q : Int) := hz
          have z6 : IntKind.u64.wrap ((A : Int) + (Q : Int)) = ((A2 : Nat) : Int) := by rw [IntKind.wrap_u64]; omega
          go_quiet ((go_at_call 166; exact (HPW.out _).mono (fun _ _ h => ⟨h.1, _, h.2.symm⟩)))
          go_wp2
          go_roundw
          case rel => exact ⟨⟨_, by rw [HND.out, World.drewN_drewN]⟩, j + 1, A2, by omega, by go_num, by go_num, HA2.out.symm⟩
          case measure => simp [intOf]; omega
        · obtain rfl : j = k := by omega
          have HAF : Hid (A = beVal xl) := Lib.hid (by rw [HA.out, List.take_of_length_le (by have := HL.out; omega)]; simp)
          rw [HAF.out]
          go_wp2
          go_ret3
          exact ⟨.slice py ny cy, rfl, HYB.out, nd, HND.out⟩
  · have HT : Hid (tNum b s = none) := Lib.hid (by unfold tNum; rw [if_neg hs])
    have HV : Hid (numV b s = 0 ∧ numR b s = []) := Lib.hid (by unfold numV numR; rw [HT.out]; exact ⟨rfl, rfl⟩)
    rw [HT.out, HV.out.1, HV.out.2, show (none : Option (Nat × List UInt8)).isSome = false from rfl]
    rw [show rSize s = false from by simpa using hs] at HM
    clear HT HV hs
    go_enter Try.func137, Try.ntmps137
    go_wp2_with fail
    refine (HM.out _).mono ?_
    rintro e w1 ⟨rfl, rfl⟩
    go_wp2
    go_ret3
    exact ⟨_, rfl, fun _ _ => BS.nil _, 0, rfl⟩

end Go.Proofs.Ytmadkfahkbdibaa

set_option linter.unusedVariables false
set_option linter.unusedSimpArgs false
namespace Go.Proofs.Ytmadkfahkbdibaa
open Go.RowKit

/-- a cursor at block g over bytes that lie below base; none: it is bad -/
def IsC (w : World) (base g : Nat) (st : Option (List UInt8)) : Prop :=
  base ≤ g ∧ ∃ (v : Value) (b : List UInt8) (bad : Bool), w.heap[g]? = some (.cells #[v, .bool bad] 118 (0, 0)) ∧ (∀ W, Below base w W → BS W v b) ∧ st = if bad then none else some b
theorem IsC.lt {w : World} {base g : Nat} {st : Option (List UInt8)} (h : IsC w base g st) : base ≤ g ∧ g < w.heap.size := by
  obtain ⟨hb, v, b, bad, h1, _⟩ := h
  exact ⟨hb, block_lt h1⟩
theorem IsC.below {w w' : World} {base g : Nat} {st : Option (List UInt8)} (h : IsC w base g st) (hw : Below w.heap.size w w') : IsC w' base g st := by
  have hlt := h.lt
  obtain ⟨hb, v, b, bad, h1, h2, h3⟩ := h
  exact ⟨hb, v, b, bad, (hw.block g hlt.2).trans h1, fun W hW => h2 W ((hw.mono (by omega)).trans hW), h3⟩
/-- what a cursor's method leaves -/
def CStep (w w' : World) (base g : Nat) (st : Option (List UInt8)) : Prop := IsC w' base g st ∧ Only g w w' ∧ w'.heap.size = w.heap.size
theorem only_below {w w' : World} {base g : Nat} (h : Only g w w') (hb : base ≤ g) (hl : base ≤ w.heap.size) : Below base w w' := Only.below (Below.refl _ _) hb hl h

set_option maxRecDepth 4000 in
set_option maxHeartbeats 1000000 in
theorem cTake_any (base g : Nat) (st : Option (List UInt8)) (s : Int) (w : World) (h : IsC w base g st) :
    Calls Try.prog 73 #[.pointer (some ⟨g, 0, none⟩), .int .i64 s] w fun e w' => e = .returned (.int .u64 (rNumV st s : Int)) ∧ CStep w w' base g (rNumS st s) := by
  have hlt := h.lt
  obtain ⟨hb, v, b, bad, hrow, hbs, rfl⟩ := h
  have hc := fun j => cell_of_row w g j _ _ _ hrow
  have hf := fun j => frozen_of_row w g j _ _ hrow
  have HROW := Lib.hid hrow
  have HBS := Lib.hid hbs
  have HTN := Lib.hid (rTakeNumber_any v b s w (hbs w (Below.refl _ _)))
  clear hrow hbs
  obtain ⟨ok, hok⟩ : ∃ ok, (tNum b s).isSome = ok := ⟨_, rfl⟩
  rw [hok] at HTN
  have HOK := Lib.hid hok
  clear hok
  generalize hV : numV b s = V at *
  have HV := Lib.hid hV
  clear hV
  go_enter Try.func73, Try.ntmps73
  go_wp2_with fail
  refine HTN.out.mono ?_
  rintro e w1 ⟨y, rfl, hy, nd, rfl⟩
  obtain ⟨py, cy, rfl, -, -, -⟩ := hy w (HBS.out w (Below.refl _ _))
  have HY := Lib.hid hy
  clear hy
  generalize (numR b s).length = ny at *
  have HN := rNum_t b s
  cases bad
  · cases ok
    · have HT : tNum b s = none := by have := HOK.out; cases h : tNum b s with | none => rfl | some q => rw [h] at this; cases this
      have HON : Only g w ((w.drewN nd).setCell ⟨g, 1, none⟩ (.bool true)) := ((Only.refl g w).drewN nd).setCell 1 _
      have HR2 : ((w.drewN nd).setCell ⟨g, 1, none⟩ (.bool true)).heap[g]? = some (.cells #[v, .bool true] 118 (0, 0)) := heap_setCell_same _ _ _ _ _ _ (show (w.drewN nd).heap[g]? = _ from HROW.out)
      have HFIN : Hid (rNumV (some b) s = 0 ∧ CStep w ((w.drewN nd).setCell ⟨g, 1, none⟩ (.bool true)) base g (rNumS (some b) s)) := Lib.hid (by
        rw [HN.1, HN.2]
        unfold numV
        rw [HT]
        exact ⟨rfl, ⟨hb, v, b, true, HR2, fun W hW => HBS.out W ((only_below HON hb (by omega)).trans hW), rfl⟩, HON, by simp⟩)
      clear HT HON HR2 HN
      go_wp2
      go_ret
      exact ⟨by show Ending.returned (.int .u64 0) = Ending.returned (.int .u64 (rNumV (some b) s : Int)); rw [HFIN.out.1]; rfl, HFIN.out.2⟩
    · have HON : Only g w (((w.drewN nd).setCell ⟨g, 1, none⟩ (.bool false)).setCell ⟨g, 0, none⟩ (.slice py ny cy)) := (((Only.refl g w).drewN nd).setCell 1 _).setCell 0 _
      have HR2 : (((w.drewN nd).setCell ⟨g, 1, none⟩ (.bool false)).setCell ⟨g, 0, none⟩ (.slice py ny cy)).heap[g]? = some (.cells #[.slice py ny cy, .bool false] 118 (0, 0)) := heap_setCell_same _ _ _ _ _ _ (heap_setCell_same _ _ _ _ _ _ (show (w.drewN nd).heap[g]? = _ from HROW.out))
      have HFIN : Hid (rNumV (some b) s = V ∧ CStep w (((w.drewN nd).setCell ⟨g, 1, none⟩ (.bool false)).setCell ⟨g, 0, none⟩ (.slice py ny cy)) base g (rNumS (some b) s)) := Lib.hid (by
        rw [HN.1, HN.2, HV.out]
        refine ⟨rfl, ⟨hb, _, numR b s, false, HR2, fun W hW => HY.out W (HBS.out W ((only_below HON hb (by omega)).trans hW)), ?_⟩, HON, by simp⟩
        unfold numR
        have := HOK.out
        cases h : tNum b s with
        | none => rw [h] at this; cases this
        | some q => rfl)
      clear HON HR2 HN
      go_wp2
      go_ret
      exact ⟨by show Ending.returned (.int .u64 (V : Int)) = Ending.returned (.int .u64 (rNumV (some b) s : Int)); rw [HFIN.out.1], HFIN.out.2⟩
  · have HON : Only g w ((w.drewN nd).setCell ⟨g, 1, none⟩ (.bool true)) := ((Only.refl g w).drewN nd).setCell 1 _
    have HR2 : ((w.drewN nd).setCell ⟨g, 1, none⟩ (.bool true)).heap[g]? = some (.cells #[v, .bool true] 118 (0, 0)) := heap_setCell_same _ _ _ _ _ _ (show (w.drewN nd).heap[g]? = _ from HROW.out)
    have HFIN : Hid (rNumV none s = 0 ∧ CStep w ((w.drewN nd).setCell ⟨g, 1, none⟩ (.bool true)) base g (rNumS none s)) := Lib.hid (by
      refine ⟨by unfold rNumV; split <;> rfl, ⟨hb, v, b, true, HR2, fun W hW => HBS.out W ((only_below HON hb (by omega)).trans hW), by unfold rNumS; split <;> rfl⟩, HON, by simp⟩)
    clear HON HR2 HN
    go_wp2
    go_ret
    exact ⟨by show Ending.returned (.int .u64 0) = Ending.returned (.int .u64 (rNumV none s : Int)); rw [HFIN.out.1]; rfl, HFIN.out.2⟩

set_option maxRecDepth 4000 in
set_option maxHeartbeats 1000000 in
theorem cCut_any (base g : Nat) (st : Option (List UInt8)) (s : Int) (w : World) (h : IsC w base g st) :
    Calls Try.prog 74 #[.pointer (some ⟨g, 0, none⟩), .int .i64 s] w fun e w' => ∃ x, e = .returned x ∧ (∀ W, Below base w' W → BS W x (rBy st s)) ∧ CStep w w' base g (rRest st s) := by
  have hlt := h.lt
  obtain ⟨hb, v, b, bad, hrow, hbs, rfl⟩ := h
  have hc := fun j => cell_of_row w g j _ _ _ hrow
  have hf := fun j => frozen_of_row w g j _ _ hrow
  have HROW := Lib.hid hrow
  have HBS := Lib.hid hbs
  have HTN := Lib.hid (rCut_any v b s w (hbs w (Below.refl _ _)))
  clear hrow hbs
  obtain ⟨ok, hok⟩ : ∃ ok, (tCut b s).isSome = ok := ⟨_, rfl⟩
  rw [hok] at HTN
  have HOK := Lib.hid hok
  clear hok
  go_enter Try.func74, Try.ntmps74
  go_wp2_with fail
  refine HTN.out.mono ?_
  rintro e w1 ⟨x, y, rfl, hy, nd, rfl⟩
  obtain ⟨py, cy, rfl, -, -, -⟩ := (hy w (HBS.out w (Below.refl _ _))).2
  have HY := Lib.hid hy
  clear hy
  generalize (cutY b s).length = ny at *
  cases bad
  · cases ok
    · have HON : Only g w ((w.drewN nd).setCell ⟨g, 1, none⟩ (.bool true)) := ((Only.refl g w).drewN nd).setCell 1 _
      have HR2 : ((w.drewN nd).setCell ⟨g, 1, none⟩ (.bool true)).heap[g]? = some (.cells #[v, .bool true] 118 (0, 0)) := heap_setCell_same _ _ _ _ _ _ (show (w.drewN nd).heap[g]? = _ from HROW.out)
      have HFIN : Hid (rBy (some b) s = [] ∧ CStep w ((w.drewN nd).setCell ⟨g, 1, none⟩ (.bool true)) base g (rRest (some b) s)) := Lib.hid (by
        have hno : ¬ (0 ≤ s ∧ s ≤ b.length) := fun h => by have := HOK.out; unfold tCut at this; rw [if_pos h] at this; cases this
        have h1 := rTake_bad (st := some b) (n := s) (fun l e => by injection e with e; subst e; exact hno)
        unfold rBy
        rw [h1.1, h1.2]
        exact ⟨rfl, ⟨hb, v, b, true, HR2, fun W hW => HBS.out W ((only_below HON hb (by omega)).trans hW), rfl⟩, HON, by simp⟩)
      clear HON HR2
      go_wp2
      go_ret
      exact ⟨_, rfl, fun W _ => by show BS W (.slice none 0 0) (rBy (some b) s); rw [HFIN.out.1]; exact BS.nil W, HFIN.out.2⟩
    · have HON : Only g w (((w.drewN nd).setCell ⟨g, 1, none⟩ (.bool false)).setCell ⟨g, 0, none⟩ (.slice py ny cy)) := (((Only.refl g w).drewN nd).setCell 1 _).setCell 0 _
      have HR2 : (((w.drewN nd).setCell ⟨g, 1, none⟩ (.bool false)).setCell ⟨g, 0, none⟩ (.slice py ny cy)).heap[g]? = some (.cells #[.slice py ny cy, .bool false] 118 (0, 0)) := heap_setCell_same _ _ _ _ _ _ (heap_setCell_same _ _ _ _ _ _ (show (w.drewN nd).heap[g]? = _ from HROW.out))
      have HFIN : Hid (cutX b s = rBy (some b) s ∧ CStep w (((w.drewN nd).setCell ⟨g, 1, none⟩ (.bool false)).setCell ⟨g, 0, none⟩ (.slice py ny cy)) base g (rRest (some b) s)) := Lib.hid (by
        have hyes : 0 ≤ s ∧ s ≤ b.length := by
          by_cases h : 0 ≤ s ∧ s ≤ b.length
          · exact h
          · have := HOK.out; unfold tCut at this; rw [if_neg h] at this; cases this
        refine ⟨?_, ⟨hb, _, cutY b s, false, HR2, fun W hW => (HY.out W (HBS.out W ((only_below HON hb (by omega)).trans hW))).2, ?_⟩, HON, by simp⟩
        · unfold cutX rBy rTake tCut; simp only [if_pos hyes]; rfl
        · unfold cutY rRest tCut; simp only [if_pos hyes]; rfl)
      have HON' := Lib.hid HON
      clear HON HR2
      go_wp2
      go_ret
      exact ⟨_, rfl, fun W hW => by show BS W x (rBy (some b) s); rw [← HFIN.out.1]; exact (HY.out W (HBS.out W ((only_below HON'.out hb (by omega)).trans hW))).1, HFIN.out.2⟩
  · have HON : Only g w ((w.drewN nd).setCell ⟨g, 1, none⟩ (.bool true)) := ((Only.refl g w).drewN nd).setCell 1 _
    have HR2 : ((w.drewN nd).setCell ⟨g, 1, none⟩ (.bool true)).heap[g]? = some (.cells #[v, .bool true] 118 (0, 0)) := heap_setCell_same _ _ _ _ _ _ (show (w.drewN nd).heap[g]? = _ from HROW.out)
    have HFIN : Hid (CStep w ((w.drewN nd).setCell ⟨g, 1, none⟩ (.bool true)) base g none) := Lib.hid ⟨⟨hb, v, b, true, HR2, fun W hW => HBS.out W ((only_below HON hb (by omega)).trans hW), rfl⟩, HON, by simp⟩
    clear HON HR2
    go_wp2
    go_ret
    exact ⟨_, rfl, fun W _ => BS.nil W, HFIN.out⟩

end Go.Proofs.Ytmadkfahkbdibaa

set_option linter.unusedVariables false
set_option linter.unusedSimpArgs false
namespace Go.Proofs.Ytmadkfahkbdibaa
open Go.ChangeShapes Go.WideShapes Go.ChangeAt Go.RowKit Go.Deep

theorem wrap_small {n k : Nat} (h : n < 256 ^ k) (hk : decide (k ≤ 4) = true) : IntKind.i64.wrap (n : Int) = (n : Int) := by
  have h2 : n < 4294967296 := Nat.lt_of_lt_of_le h (by
    have : k ≤ 4 := by simpa using hk
    exact Nat.pow_le_pow_right (by decide) this)
  rw [IntKind.wrap_i64]
  omega
theorem IsC.only {w w' : World} {base g k : Nat} {st : Option (List UInt8)} (h : IsC w base g st) (hne : g ≠ k) (hk : base ≤ k) (hw : Only k w w') : IsC w' base g st := by
  have hlt := h.lt
  obtain ⟨hb, v, b, bad, h1, h2, h3⟩ := h
  exact ⟨hb, v, b, bad, (hw.block g hlt.2 hne).trans h1, fun W hW => h2 W ((only_below hw hk (by omega)).trans hW), h3⟩
theorem IsC.typ {w : World} {base g : Nat} {st : Option (List UInt8)} (h : IsC w base g st) : ∃ cs, w.heap[g]? = some (.cells cs 118 (0, 0)) := by
  obtain ⟨hb, v, b, bad, h1, -⟩ := h
  exact ⟨_, h1⟩
/-- where the reference's walk stands: its cursor, its ticket, its result -/
structure CA (w W : World) (g gt gr : Nat) (st : Option (List UInt8)) (tk : Array Value) : Prop where
  c : IsC W w.heap.size g st
  t : W.heap[gt]? = some (.cells tk 27 (0, 0))
  z : W.heap[gr]? = some (.cells #[.int .u64 0, .string ⟨#[]⟩, .int .i64 0, .slice none 0 0, .slice none 0 0, .int .u64 0, .int .u64 0, .int .u64 0, .int .i64 0, .int .i64 0, .slice none 0 0] 27 (0, 0))
  b : Below w.heap.size w W
  ne : gt ≠ gr
  lo : w.heap.size ≤ gt
theorem CA.gne {w W : World} {g gt gr : Nat} {st : Option (List UInt8)} {tk : Array Value} (h : CA w W g gt gr st tk) : g ≠ gt ∧ g ≠ gr := by
  obtain ⟨cs, hc⟩ := h.c.typ
  exact ⟨row_neT hc h.t (by decide), row_neT hc h.z (by decide)⟩
theorem CA.step {w W W' : World} {g gt gr : Nat} {st st' : Option (List UInt8)} {tk : Array Value} (h : CA w W g gt gr st tk) (hs : CStep W W' w.heap.size g st') : CA w W' g gt gr st' tk :=
  ⟨hs.1, (hs.2.1.block _ (block_lt h.t) (Ne.symm h.gne.1)).trans h.t, (hs.2.1.block _ (block_lt h.z) (Ne.symm h.gne.2)).trans h.z, Only.below h.b h.c.lt.1 h.b.size hs.2.1, h.ne, h.lo⟩
theorem CA.set {w W : World} {g gt gr : Nat} {st : Option (List UInt8)} {tk : Array Value} (h : CA w W g gt gr st tk) (o : Nat) (v : Value) : CA w (W.setCell ⟨gt, o, none⟩ v) g gt gr st (tk.setIfInBounds o v) :=
  ⟨h.c.only h.gne.1 h.lo ((Only.refl gt W).setCell o v), heap_setCell_same _ _ _ _ _ _ h.t, (heap_setCell_other W ⟨gt, o, none⟩ gr v (Ne.symm h.ne)).trans h.z, h.b.setCell h.lo v, h.ne, h.lo⟩
theorem CA.below {w W W' : World} {g gt gr : Nat} {st : Option (List UInt8)} {tk : Array Value} (h : CA w W g gt gr st tk) (hb : Below W.heap.size W W') : CA w W' g gt gr st tk :=
  ⟨h.c.below hb, (hb.block _ (block_lt h.t)).trans h.t, (hb.block _ (block_lt h.z)).trans h.z, h.b.trans (hb.mono h.b.size), h.ne, h.lo⟩
theorem CA.other {w W W' : World} {g gt gr k : Nat} {st : Option (List UInt8)} {tk : Array Value} (h : CA w W g gt gr st tk) (hw : Only k W W') (h1 : k ≠ g) (h2 : k ≠ gt) (h3 : k ≠ gr) (h4 : w.heap.size ≤ k) : CA w W' g gt gr st tk :=
  ⟨h.c.only (Ne.symm h1) h4 hw, (hw.block _ (block_lt h.t) (Ne.symm h2)).trans h.t, (hw.block _ (block_lt h.z) (Ne.symm h3)).trans h.z, Only.below h.b h4 h.b.size hw, h.ne, h.lo⟩
theorem CA.grown {w W W' : World} {g gt gr : Nat} {st : Option (List UInt8)} {tk : Array Value} (h : CA w W g gt gr st tk) {e n m : Nat} {v : Value} {xs : List Value} (ho : W.ownsRow w.heap.size e n v m xs) (hg : W.grownBy W' v.ownBlock) (h1 : e ≠ 118) (h2 : e ≠ 27) : CA w W' g gt gr st tk := by
  have hB : Below w.heap.size W W' := (Below.refl w.heap.size W).grown hg h.b.size (fun b hb => (recs_base ho hb).1)
  obtain ⟨cs, hc⟩ := h.c.typ
  have n1 := own_neT ho hc h1
  have n2 := own_neT ho h.t h2
  have n3 := own_neT ho h.z h2
  have hlt := h.c.lt
  refine ⟨?_, (hg.block _ (block_lt h.t) (fun k => n2 _ k.symm rfl)).trans h.t, (hg.block _ (block_lt h.z) (fun k => n3 _ k.symm rfl)).trans h.z, h.b.trans hB, h.ne, h.lo⟩
  obtain ⟨hb, v0, b0, bad, g1, g2, g3⟩ := h.c
  exact ⟨hb, v0, b0, bad, (hg.block _ hlt.2 (fun k => n1 _ k.symm rfl)).trans g1, fun W2 hW => g2 W2 (hB.trans hW), g3⟩
/-- own rows stay where the cursor, or the ticket, is written -/
theorem CA.keepO {w W W' : World} {g gt gr : Nat} {st : Option (List UInt8)} {tk : Array Value} (h : CA w W g gt gr st tk) (hw : Only g W W') {base e n m : Nat} {v : Value} {xs : List Value} (ho : W.ownsRow base e n v m xs) (he : e ≠ 118) : W'.ownsRow base e n v m xs := by
  obtain ⟨cs, hc⟩ := h.c.typ
  exact recs_only ho (own_neT ho hc he) hw
theorem CA.keepT {w W : World} {g gt gr : Nat} {st : Option (List UInt8)} {tk : Array Value} (h : CA w W g gt gr st tk) {base e n m : Nat} {v : Value} {xs : List Value} (ho : W.ownsRow base e n v m xs) (he : e ≠ 27) (o : Nat) (u : Value) : (W.setCell ⟨gt, o, none⟩ u).ownsRow base e n v m xs :=
  recs_only ho (own_neT ho h.t he) ((Only.refl gt W).setCell o u)
attribute [local go_sem ↓] Tk_execLoad Tk_execStore Cp_execLoad Cp_execStore Tx_execLoad Tx_execStore Ev_execLoad Ev_execStore
attribute [local go_sem] Tk_load Tk_store Cp_load Cp_store Tx_load Tx_store Ev_load Ev_store loL_drew okL_drew there_sc World.there_drew
attribute [local irreducible] Tkt.okT Tkt.ofT
set_option maxRecDepth 8000 in
set_option maxHeartbeats 8000000 in
theorem rof_any (v : Value) (b : List UInt8) (hl : b.length ≤ 1073741824) (w : World) (hv : BS w v b) : Calls Try.prog 24 #[v] w fun e w' => ∃ c x h : Sl, e = .returned (.tuple #[.agg #[.int .u64 (Tkt.ofT b).num, .string (Tkt.ofT b).loc, .int .i64 (Tkt.ofT b).iss, .slice c.p c.n c.c, .slice x.p x.n x.c, .int .u64 (Tkt.ofT b).prev, .int .u64 (Tkt.ofT b).org, .int .u64 (Tkt.ofT b).fst, .int .i64 (Tkt.ofT b).vou, .int .i64 (Tkt.ofT b).posts, .slice h.p h.n h.c], .bool (Tkt.okT b)]) ∧ w'.ownsRow w.heap.size 44 6 (.slice c.p c.n c.c) (Tkt.ofT b).cs.length (encL Cpn.cells (Tkt.ofT b).cs) ∧ w'.ownsRow w.heap.size 48 2 (.slice x.p x.n x.c) (Tkt.ofT b).ts.length (encL Txx.cells (Tkt.ofT b).ts) ∧ w'.ownsRow w.heap.size 46 4 (.slice h.p h.n h.c) (Tkt.ofT b).hs.length (encL Evt.cells (Tkt.ofT b).hs) ∧ Below w.heap.size w w' := by
  obtain ⟨ok, hok⟩ : ∃ o, Tkt.okT b = o := ⟨_, rfl⟩
  rw [hok]
  have HOKD := Lib.hid hok
  clear hok
  obtain ⟨pv, nv, cv, hvv⟩ : ∃ p n c, v = .slice p n c := by obtain ⟨p, c, h, -⟩ := hv; exact ⟨_, _, _, h⟩
  subst hvv
  have HV := Lib.hid hv
  clear hv
  have hb1 := (Below.refl w.heap.size w).alloc (Nat.le_refl _) (.cells #[.int .u64 0, .string ⟨#[]⟩, .int .i64 0, .slice none 0 0, .slice none 0 0, .int .u64 0, .int .u64 0, .int .u64 0, .int .i64 0, .int .i64 0, .slice none 0 0] 27 (0, 0))
  have hb2 := hb1.alloc (by simp) (.cells #[.slice pv nv cv, .bool false] 118 (0, 0))
  have HC0 : Hid (IsC ((w.alloc (.cells #[.int .u64 0, .string ⟨#[]⟩, .int .i64 0, .slice none 0 0, .slice none 0 0, .int .u64 0, .int .u64 0, .int .u64 0, .int .i64 0, .int .i64 0, .slice none 0 0] 27 (0, 0))).alloc (.cells #[.slice pv nv cv, .bool false] 118 (0, 0))) w.heap.size (w.heap.size + 1) (some b)) := Lib.hid ⟨by omega, .slice pv nv cv, b, false, new_rowW _ _ _ (by simp), fun W hW => HV.out.below (hb2.trans hW), rfl⟩
  have HZ0 : Hid (((w.alloc (.cells #[.int .u64 0, .string ⟨#[]⟩, .int .i64 0, .slice none 0 0, .slice none 0 0, .int .u64 0, .int .u64 0, .int .u64 0, .int .i64 0, .int .i64 0, .slice none 0 0] 27 (0, 0))).alloc (.cells #[.slice pv nv cv, .bool false] 118 (0, 0))).heap[w.heap.size]? = some (.cells #[.int .u64 0, .string ⟨#[]⟩, .int .i64 0, .slice none 0 0, .slice none 0 0, .int .u64 0, .int .u64 0, .int .u64 0, .int .i64 0, .int .i64 0, .slice none 0 0] 27 (0, 0))) := Lib.hid (row_after (new_rowW _ _ _ rfl))
  have HB0 := Lib.hid hb2
  clear hb1 hb2
  go_enter Try.func24, Try.ntmps24
  go_wp2_with fail
  generalize ((w.alloc (.cells #[.int .u64 0, .string ⟨#[]⟩, .int .i64 0, .slice none 0 0, .slice none 0 0, .int .u64 0, .int .u64 0, .int .u64 0, .int .i64 0, .int .i64 0, .slice none 0 0] 27 (0, 0))).alloc (.cells #[.slice pv nv cv, .bool false] 118 (0, 0))) = w2 at *
  refine (cTake_any w.heap.size (w.heap.size + 1) _ 8 _ HC0.out).mono ?_
  rintro e wq ⟨rfl, hs⟩
  have HS0 := Lib.hid hs.2.1
  have HC := Lib.hid hs.1
  have HZ := Lib.hid ((hs.2.1.block _ (block_lt HZ0.out) (by omega)).trans HZ0.out)
  have HB := Lib.hid (Only.below HB0.out (by omega) HB0.out.size hs.2.1)
  clear hs
  have th := there_newT (w := wq) (zs := [.int .u64 0, .string ⟨#[]⟩, .int .i64 0, .slice none 0 0, .slice none 0 0, .int .u64 0, .int .u64 0, .int .u64 0, .int .i64 0, .int .i64 0, .slice none 0 0]) (e := 27) (n := 11) rfl
  have h1n : ([.int .u64 (rNumV (some b) 8 : Int), .string ⟨#[]⟩, .int .i64 0, .slice none 0 0, .slice none 0 0, .int .u64 0, .int .u64 0, .int .u64 0, .int .i64 0, .int .i64 0, .slice none 0 0] : List Value).length = 11 := rfl
  have h1c : ([.int .u64 (rNumV (some b) 8 : Int), .string ⟨#[]⟩, .int .i64 0, .slice none 0 0, .slice none 0 0, .int .u64 0, .int .u64 0, .int .u64 0, .int .i64 0, .int .i64 0, .slice none 0 0] : List Value).all (·.oneCell') = true := rfl
  go_wp2_with fail
  have HP := Lib.hid (putTk (W := wq) (cs := [.int .u64 (rNumV (some b) 8 : Int), .string ⟨#[]⟩, .int .i64 0, .slice none 0 0, .slice none 0 0, .int .u64 0, .int .u64 0, .int .u64 0, .int .i64 0, .int .i64 0, .slice none 0 0]) rfl)
  have HGT : Hid (w.heap.size < wq.heap.size) := Lib.hid (block_lt HZ.out)
  have HC := Lib.hid (HC.out.below HP.out.2)
  have HZ := Lib.hid ((HP.out.2.block _ (block_lt HZ.out)).trans HZ.out)
  have HB := Lib.hid (HB.out.trans (HP.out.2.mono HB.out.size))
  have HT := Lib.hid HP.out.1
  clear HP th h1n h1c
  generalize (wq.alloc (.cells #[.int .u64 0, .string ⟨#[]⟩, .int .i64 0, .slice none 0 0, .slice none 0 0, .int .u64 0, .int .u64 0, .int .u64 0, .int .i64 0, .int .i64 0, .slice none 0 0] 27 (0, 0))).setCells wq.heap.size 0 [.int .u64 (rNumV (some b) 8 : Int), .string ⟨#[]⟩, .int .i64 0, .slice none 0 0, .slice none 0 0, .int .u64 0, .int .u64 0, .int .u64 0, .int .i64 0, .int .i64 0, .slice none 0 0] = wt at *
  generalize wq.heap.size = gt at *
  have HA : Hid (CA w wt (w.heap.size + 1) gt w.heap.size (Tkt.q1 (some b)) #[.int .u64 (rNumV (some b) 8 : Int), .string ⟨#[]⟩, .int .i64 0, .slice none 0 0, .slice none 0 0, .int .u64 0, .int .u64 0, .int .u64 0, .int .i64 0, .int .i64 0, .slice none 0 0]) := Lib.hid ⟨HC.out, HT.out, HZ.out, HB.out, by have := HGT.out; omega, by have := HGT.out; omega⟩
  clear HC HZ HB HT
  refine (cCut_any w.heap.size (w.heap.size + 1) _ 6 _ HA.out.c).mono ?_
  rintro e wq ⟨v6, rfl, hbs, hs⟩
  have hcv := (hbs wq (Below.refl _ _)).to_string
  clear hbs
  have HA := Lib.hid (HA.out.step hs)
  clear hs
  have kc := fun j => cell_of_row wq gt j _ _ _ HA.out.t
  have kf := fun j => frozen_of_row wq gt j _ _ HA.out.t
  go_wp2_with fail
  clear kc kf hcv
  have HA : Hid (CA w (wq.setCell ⟨gt, 1, none⟩ (.string ⟨(rBy (Tkt.q1 (some b)) 6).toArray⟩)) (w.heap.size + 1) gt w.heap.size (Tkt.q2 (some b)) #[.int .u64 (rNumV (some b) 8 : Int), .string ⟨(rBy (Tkt.q1 (some b)) 6).toArray⟩, .int .i64 0, .slice none 0 0, .slice none 0 0, .int .u64 0, .int .u64 0, .int .u64 0, .int .i64 0, .int .i64 0, .slice none 0 0]) := Lib.hid (HA.out.set 1 _)
  generalize wq.setCell ⟨gt, 1, none⟩ (.string ⟨(rBy (Tkt.q1 (some b)) 6).toArray⟩) = wt at *
  refine (cTake_any w.heap.size (w.heap.size + 1) _ 4 _ HA.out.c).mono ?_
  rintro e wq ⟨rfl, hs⟩
  have HS0 := Lib.hid hs.2.1
  have HA := Lib.hid (HA.out.step hs)
  clear hs
  have kc := fun j => cell_of_row wq gt j _ _ _ HA.out.t
  have kf := fun j => frozen_of_row wq gt j _ _ HA.out.t
  have kw : IntKind.i64.wrap (rNumV (Tkt.q2 (some b)) 4 : Int) = (rNumV (Tkt.q2 (some b)) 4 : Int) := wrap_small (rNumV_lt (Tkt.q2 (some b)) 4) (by decide)
  go_wp2_with fail
  clear kc kf kw
  have HA : Hid (CA w (wq.setCell ⟨gt, 2, none⟩ (.int .i64 (rNumV (Tkt.q2 (some b)) 4 : Int))) (w.heap.size + 1) gt w.heap.size (Tkt.q3 (some b)) #[.int .u64 (rNumV (some b) 8 : Int), .string ⟨(rBy (Tkt.q1 (some b)) 6).toArray⟩, .int .i64 (rNumV (Tkt.q2 (some b)) 4 : Int), .slice none 0 0, .slice none 0 0, .int .u64 0, .int .u64 0, .int .u64 0, .int .i64 0, .int .i64 0, .slice none 0 0]) := Lib.hid (HA.out.set 2 _)
  generalize wq.setCell ⟨gt, 2, none⟩ (.int .i64 (rNumV (Tkt.q2 (some b)) 4 : Int)) = wt at *
  refine (cTake_any w.heap.size (w.heap.size + 1) _ 8 _ HA.out.c).mono ?_
  rintro e wq ⟨rfl, hs⟩
  have HS0 := Lib.hid hs.2.1
  have HA := Lib.hid (HA.out.step hs)
  clear hs
  have kc := fun j => cell_of_row wq gt j _ _ _ HA.out.t
  have kf := fun j => frozen_of_row wq gt j _ _ HA.out.t
  go_wp2_with fail
  clear kc kf
  have HA : Hid (CA w (wq.setCell ⟨gt, 5, none⟩ (.int .u64 (rNumV (Tkt.q3 (some b)) 8 : Int))) (w.heap.size + 1) gt w.heap.size (Tkt.q4 (some b)) #[.int .u64 (rNumV (some b) 8 : Int), .string ⟨(rBy (Tkt.q1 (some b)) 6).toArray⟩, .int .i64 (rNumV (Tkt.q2 (some b)) 4 : Int), .slice none 0 0, .slice none 0 0, .int .u64 (rNumV (Tkt.q3 (some b)) 8 : Int), .int .u64 0, .int .u64 0, .int .i64 0, .int .i64 0, .slice none 0 0]) := Lib.hid (HA.out.set 5 _)
  generalize wq.setCell ⟨gt, 5, none⟩ (.int .u64 (rNumV (Tkt.q3 (some b)) 8 : Int)) = wt at *
  refine (cTake_any w.heap.size (w.heap.size + 1) _ 8 _ HA.out.c).mono ?_
  rintro e wq ⟨rfl, hs⟩
  have HS0 := Lib.hid hs.2.1
  have HA := Lib.hid (HA.out.step hs)
  clear hs
  have kc := fun j => cell_of_row wq gt j _ _ _ HA.out.t
  have kf := fun j => frozen_of_row wq gt j _ _ HA.out.t
  go_wp2_with fail
  clear kc kf
  have HA : Hid (CA w (wq.setCell ⟨gt, 6, none⟩ (.int .u64 (rNumV (Tkt.q4 (some b)) 8 : Int))) (w.heap.size + 1) gt w.heap.size (Tkt.q5 (some b)) #[.int .u64 (rNumV (some b) 8 : Int), .string ⟨(rBy (Tkt.q1 (some b)) 6).toArray⟩, .int .i64 (rNumV (Tkt.q2 (some b)) 4 : Int), .slice none 0 0, .slice none 0 0, .int .u64 (rNumV (Tkt.q3 (some b)) 8 : Int), .int .u64 (rNumV (Tkt.q4 (some b)) 8 : Int), .int .u64 0, .int .i64 0, .int .i64 0, .slice none 0 0]) := Lib.hid (HA.out.set 6 _)
  generalize wq.setCell ⟨gt, 6, none⟩ (.int .u64 (rNumV (Tkt.q4 (some b)) 8 : Int)) = wt at *
  refine (cTake_any w.heap.size (w.heap.size + 1) _ 8 _ HA.out.c).mono ?_
  rintro e wq ⟨rfl, hs⟩
  have HS0 := Lib.hid hs.2.1
  have HA := Lib.hid (HA.out.step hs)
  clear hs
  have kc := fun j => cell_of_row wq gt j _ _ _ HA.out.t
  have kf := fun j => frozen_of_row wq gt j _ _ HA.out.t
  go_wp2_with fail
  clear kc kf
  have HA : Hid (CA w (wq.setCell ⟨gt, 7, none⟩ (.int .u64 (rNumV (Tkt.q5 (some b)) 8 : Int))) (w.heap.size + 1) gt w.heap.size (Tkt.q6 (some b)) #[.int .u64 (rNumV (some b) 8 : Int), .string ⟨(rBy (Tkt.q1 (some b)) 6).toArray⟩, .int .i64 (rNumV (Tkt.q2 (some b)) 4 : Int), .slice none 0 0, .slice none 0 0, .int .u64 (rNumV (Tkt.q3 (some b)) 8 : Int), .int .u64 (rNumV (Tkt.q4 (some b)) 8 : Int), .int .u64 (rNumV (Tkt.q5 (some b)) 8 : Int), .int .i64 0, .int .i64 0, .slice none 0 0]) := Lib.hid (HA.out.set 7 _)
  generalize wq.setCell ⟨gt, 7, none⟩ (.int .u64 (rNumV (Tkt.q5 (some b)) 8 : Int)) = wt at *
  refine (cTake_any w.heap.size (w.heap.size + 1) _ 8 _ HA.out.c).mono ?_
  rintro e wq ⟨rfl, hs⟩
  have HS0 := Lib.hid hs.2.1
  have HA := Lib.hid (HA.out.step hs)
  clear hs
  have kc := fun j => cell_of_row wq gt j _ _ _ HA.out.t
  have kf := fun j => frozen_of_row wq gt j _ _ HA.out.t
  obtain ⟨zv, kw⟩ : ∃ z, IntKind.i64.wrap (rNumV (Tkt.q6 (some b)) 8 : Int) = z := ⟨_, rfl⟩
  have Hzv := Lib.hid kw
  go_wp2_with fail
  clear kc kf kw
  have HA : Hid (CA w (wq.setCell ⟨gt, 8, none⟩ (.int .i64 zv)) (w.heap.size + 1) gt w.heap.size (Tkt.q7 (some b)) #[.int .u64 (rNumV (some b) 8 : Int), .string ⟨(rBy (Tkt.q1 (some b)) 6).toArray⟩, .int .i64 (rNumV (Tkt.q2 (some b)) 4 : Int), .slice none 0 0, .slice none 0 0, .int .u64 (rNumV (Tkt.q3 (some b)) 8 : Int), .int .u64 (rNumV (Tkt.q4 (some b)) 8 : Int), .int .u64 (rNumV (Tkt.q5 (some b)) 8 : Int), .int .i64 zv, .int .i64 0, .slice none 0 0]) := Lib.hid (HA.out.set 8 _)
  generalize wq.setCell ⟨gt, 8, none⟩ (.int .i64 zv) = wt at *
  refine (cTake_any w.heap.size (w.heap.size + 1) _ 1 _ HA.out.c).mono ?_
  rintro e wq ⟨rfl, hs⟩
  have HS0 := Lib.hid hs.2.1
  have HA := Lib.hid (HA.out.step hs)
  clear hs
  have kw : IntKind.i64.wrap (rNumV (Tkt.q7 (some b)) 1 : Int) = (rNumV (Tkt.q7 (some b)) 1 : Int) := wrap_small (rNumV_lt (Tkt.q7 (some b)) 1) (by decide)
  have hnb : rNumV (Tkt.q7 (some b)) 1 < 256 := rNumV_lt _ 1
  have HNB := Lib.hid hnb
  have HA : Hid (CA w wq (w.heap.size + 1) gt w.heap.size (Tkt.q8 (some b)) #[.int .u64 (rNumV (some b) 8 : Int), .string ⟨(rBy (Tkt.q1 (some b)) 6).toArray⟩, .int .i64 (rNumV (Tkt.q2 (some b)) 4 : Int), .slice none 0 0, .slice none 0 0, .int .u64 (rNumV (Tkt.q3 (some b)) 8 : Int), .int .u64 (rNumV (Tkt.q4 (some b)) 8 : Int), .int .u64 (rNumV (Tkt.q5 (some b)) 8 : Int), .int .i64 zv, .int .i64 0, .slice none 0 0]) := Lib.hid HA.out
  go_wp2_with fail
  clear kw hnb
  go_loopw [7] (fun i wr => ∃ (j : Nat) (q : Option Addr) (z : Nat), j ≤ rNumV (Tkt.q7 (some b)) 1 ∧ i = .int .i64 j ∧ CA w wr (w.heap.size + 1) gt w.heap.size (Tkt.itS Tkt.gCs j (Tkt.q8 (some b))) #[.int .u64 (rNumV (some b) 8 : Int), .string ⟨(rBy (Tkt.q1 (some b)) 6).toArray⟩, .int .i64 (rNumV (Tkt.q2 (some b)) 4 : Int), .slice q j z, .slice none 0 0, .int .u64 (rNumV (Tkt.q3 (some b)) 8 : Int), .int .u64 (rNumV (Tkt.q4 (some b)) 8 : Int), .int .u64 (rNumV (Tkt.q5 (some b)) 8 : Int), .int .i64 zv, .int .i64 0, .slice none 0 0] ∧ wr.ownsRow w.heap.size 44 6 (.slice q j z) j (encL Cpn.cells (Tkt.itL Tkt.gC Tkt.gCs j (Tkt.q8 (some b))))) (fun i _ => rNumV (Tkt.q7 (some b)) 1 - (intOf i).toNat)
  case atStart => exact ⟨0, none, 0, Nat.zero_le _, rfl, HA.out, World.ownsRow_nil _ _ _ _⟩
  case round =>
    obtain ⟨j, q, z, hj, rfl, hA, hO⟩ := hrel
    have hnb := HNB.out
    have HA := Lib.hid hA
    have HOX := Lib.hid hO
    clear hA hO
    by_cases hlt : j < rNumV (Tkt.q7 (some b)) 1
    · obtain ⟨sj, hsj⟩ : ∃ s, Tkt.itS Tkt.gCs j (Tkt.q8 (some b)) = s := ⟨_, rfl⟩
      rw [hsj] at HA
      have HSJ := Lib.hid hsj
      clear hsj
      go_wp2_with fail
      refine (cTake_any w.heap.size (w.heap.size + 1) _ 2 _ HA.out.c).mono ?_
      rintro e wq ⟨rfl, hs⟩
      have HS0 := Lib.hid hs.2.1
      have HOX := Lib.hid (HA.out.keepO hs.2.1 HOX.out (by decide))
      have HA := Lib.hid (HA.out.step hs)
      clear hs
      have HA : Hid (CA w wq (w.heap.size + 1) gt w.heap.size (Tkt.cc1 sj) #[.int .u64 (rNumV (some b) 8 : Int), .string ⟨(rBy (Tkt.q1 (some b)) 6).toArray⟩, .int .i64 (rNumV (Tkt.q2 (some b)) 4 : Int), .slice q j z, .slice none 0 0, .int .u64 (rNumV (Tkt.q3 (some b)) 8 : Int), .int .u64 (rNumV (Tkt.q4 (some b)) 8 : Int), .int .u64 (rNumV (Tkt.q5 (some b)) 8 : Int), .int .i64 zv, .int .i64 0, .slice none 0 0]) := Lib.hid HA.out
      have kw : IntKind.i64.wrap (rNumV (sj) 2 : Int) = (rNumV (sj) 2 : Int) := wrap_small (rNumV_lt (sj) 2) (by decide)
      have tc := there_newT (w := wq) (zs := [.int .i64 0, .int .i64 0, .int .i64 0, .int .i64 0, .int .i64 0, .int .u64 0]) (e := 44) (n := 6) rfl
      have c6n : ([.int .i64 (rNumV sj 2 : Int), .int .i64 0, .int .i64 0, .int .i64 0, .int .i64 0, .int .u64 0] : List Value).length = 6 := rfl
      have c6c : ([.int .i64 (rNumV sj 2 : Int), .int .i64 0, .int .i64 0, .int .i64 0, .int .i64 0, .int .u64 0] : List Value).all (·.oneCell') = true := rfl
      go_wp2_with fail
      clear kw
      have HP := Lib.hid (putRec (W := wq) (e := 44) (zs := [.int .i64 0, .int .i64 0, .int .i64 0, .int .i64 0, .int .i64 0, .int .u64 0]) (cs := [.int .i64 (rNumV sj 2 : Int), .int .i64 0, .int .i64 0, .int .i64 0, .int .i64 0, .int .u64 0]) rfl)
      have HNX : Hid (∀ b, (Value.slice q j z).ownBlock = some b → b ≠ wq.heap.size) := Lib.hid (fun b hb => by have := (recs_base HOX.out hb).2; omega)
      have HGC : Hid (wq.heap.size ≠ (w.heap.size + 1) ∧ wq.heap.size ≠ gt ∧ wq.heap.size ≠ w.heap.size ∧ w.heap.size ≤ wq.heap.size) := Lib.hid (by have h1 := HA.out.c.lt; have h2 := block_lt HA.out.t; have h3 := block_lt HA.out.z; have h4 := HA.out.b.size; omega)
      have HOX := Lib.hid (recs_below HOX.out HP.out.2)
      have HA := Lib.hid (HA.out.below HP.out.2)
      have HRC := Lib.hid HP.out.1
      clear HP tc c6n c6c
      generalize (wq.alloc (.cells #[.int .i64 0, .int .i64 0, .int .i64 0, .int .i64 0, .int .i64 0, .int .u64 0] 44 (0, 0))).setCells wq.heap.size 0 [.int .i64 (rNumV sj 2 : Int), .int .i64 0, .int .i64 0, .int .i64 0, .int .i64 0, .int .u64 0] = wt at *
      generalize wq.heap.size = gc at *
      refine (cTake_any w.heap.size (w.heap.size + 1) _ 4 _ HA.out.c).mono ?_
      rintro e wq ⟨rfl, hs⟩
      have HS0 := Lib.hid hs.2.1
      have HOX := Lib.hid (HA.out.keepO hs.2.1 HOX.out (by decide))
      have HA := Lib.hid (HA.out.step hs)
      clear hs
      have HRC := Lib.hid ((HS0.out.block _ (block_lt HRC.out) HGC.out.1).trans HRC.out)
      have HA : Hid (CA w wq (w.heap.size + 1) gt w.heap.size (Tkt.cc2 sj) #[.int .u64 (rNumV (some b) 8 : Int), .string ⟨(rBy (Tkt.q1 (some b)) 6).toArray⟩, .int .i64 (rNumV (Tkt.q2 (some b)) 4 : Int), .slice q j z, .slice none 0 0, .int .u64 (rNumV (Tkt.q3 (some b)) 8 : Int), .int .u64 (rNumV (Tkt.q4 (some b)) 8 : Int), .int .u64 (rNumV (Tkt.q5 (some b)) 8 : Int), .int .i64 zv, .int .i64 0, .slice none 0 0]) := Lib.hid HA.out
      have kw : IntKind.i64.wrap (rNumV (Tkt.cc1 sj) 4 : Int) = (rNumV (Tkt.cc1 sj) 4 : Int) := wrap_small (rNumV_lt (Tkt.cc1 sj) 4) (by decide)
      have kc := fun j => cell_of_row wq gc j _ _ _ HRC.out
      have kf := fun j => frozen_of_row wq gc j _ _ HRC.out
      go_wp2_with fail
      clear kc kf kw
      have hon := (Only.refl gc wq).setCell 1 (.int .i64 (rNumV (Tkt.cc1 sj) 4 : Int))
      have HOX := Lib.hid (recs_only HOX.out HNX.out hon)
      have HA := Lib.hid (HA.out.other hon HGC.out.1 HGC.out.2.1 HGC.out.2.2.1 HGC.out.2.2.2)
      have HRC : Hid ((wq.setCell ⟨gc, 1, none⟩ (.int .i64 (rNumV (Tkt.cc1 sj) 4 : Int))).heap[gc]? = some (.cells #[.int .i64 (rNumV sj 2 : Int), .int .i64 (rNumV (Tkt.cc1 sj) 4 : Int), .int .i64 0, .int .i64 0, .int .i64 0, .int .u64 0] 44 (0, 0))) := Lib.hid (heap_setCell_same _ _ _ _ _ _ HRC.out)
      clear hon
      generalize wq.setCell ⟨gc, 1, none⟩ (.int .i64 (rNumV (Tkt.cc1 sj) 4 : Int)) = wt at *
      refine (cTake_any w.heap.size (w.heap.size + 1) _ 8 _ HA.out.c).mono ?_
      rintro e wq ⟨rfl, hs⟩
      have HS0 := Lib.hid hs.2.1
      have HOX := Lib.hid (HA.out.keepO hs.2.1 HOX.out (by decide))
      have HA := Lib.hid (HA.out.step hs)
      clear hs
      have HRC := Lib.hid ((HS0.out.block _ (block_lt HRC.out) HGC.out.1).trans HRC.out)
      have HA : Hid (CA w wq (w.heap.size + 1) gt w.heap.size (Tkt.cc3 sj) #[.int .u64 (rNumV (some b) 8 : Int), .string ⟨(rBy (Tkt.q1 (some b)) 6).toArray⟩, .int .i64 (rNumV (Tkt.q2 (some b)) 4 : Int), .slice q j z, .slice none 0 0, .int .u64 (rNumV (Tkt.q3 (some b)) 8 : Int), .int .u64 (rNumV (Tkt.q4 (some b)) 8 : Int), .int .u64 (rNumV (Tkt.q5 (some b)) 8 : Int), .int .i64 zv, .int .i64 0, .slice none 0 0]) := Lib.hid HA.out
      obtain ⟨zva, kw⟩ : ∃ z, IntKind.i64.wrap (rNumV (Tkt.cc2 sj) 8 : Int) = z := ⟨_, rfl⟩
      have Hzva := Lib.hid kw
      have kc := fun j => cell_of_row wq gc j _ _ _ HRC.out
      have kf := fun j => frozen_of_row wq gc j _ _ HRC.out
      go_wp2_with fail
      clear kc kf kw
      have hon := (Only.refl gc wq).setCell 2 (.int .i64 zva)
      have HOX := Lib.hid (recs_only HOX.out HNX.out hon)
      have HA := Lib.hid (HA.out.other hon HGC.out.1 HGC.out.2.1 HGC.out.2.2.1 HGC.out.2.2.2)
      have HRC : Hid ((wq.setCell ⟨gc, 2, none⟩ (.int .i64 zva)).heap[gc]? = some (.cells #[.int .i64 (rNumV sj 2 : Int), .int .i64 (rNumV (Tkt.cc1 sj) 4 : Int), .int .i64 zva, .int .i64 0, .int .i64 0, .int .u64 0] 44 (0, 0))) := Lib.hid (heap_setCell_same _ _ _ _ _ _ HRC.out)
      clear hon
      generalize wq.setCell ⟨gc, 2, none⟩ (.int .i64 zva) = wt at *
      refine (cTake_any w.heap.size (w.heap.size + 1) _ 1 _ HA.out.c).mono ?_
      rintro e wq ⟨rfl, hs⟩
      have HS0 := Lib.hid hs.2.1
      have HOX := Lib.hid (HA.out.keepO hs.2.1 HOX.out (by decide))
      have HA := Lib.hid (HA.out.step hs)
      clear hs
      have HRC := Lib.hid ((HS0.out.block _ (block_lt HRC.out) HGC.out.1).trans HRC.out)
      have HA : Hid (CA w wq (w.heap.size + 1) gt w.heap.size (Tkt.cc4 sj) #[.int .u64 (rNumV (some b) 8 : Int), .string ⟨(rBy (Tkt.q1 (some b)) 6).toArray⟩, .int .i64 (rNumV (Tkt.q2 (some b)) 4 : Int), .slice q j z, .slice none 0 0, .int .u64 (rNumV (Tkt.q3 (some b)) 8 : Int), .int .u64 (rNumV (Tkt.q4 (some b)) 8 : Int), .int .u64 (rNumV (Tkt.q5 (some b)) 8 : Int), .int .i64 zv, .int .i64 0, .slice none 0 0]) := Lib.hid HA.out
      have kw : IntKind.i64.wrap (rNumV (Tkt.cc3 sj) 1 : Int) = (rNumV (Tkt.cc3 sj) 1 : Int) := wrap_small (rNumV_lt (Tkt.cc3 sj) 1) (by decide)
      have kc := fun j => cell_of_row wq gc j _ _ _ HRC.out
      have kf := fun j => frozen_of_row wq gc j _ _ HRC.out
      go_wp2_with fail
      clear kc kf kw
      have hon := (Only.refl gc wq).setCell 3 (.int .i64 (rNumV (Tkt.cc3 sj) 1 : Int))
      have HOX := Lib.hid (recs_only HOX.out HNX.out hon)
      have HA := Lib.hid (HA.out.other hon HGC.out.1 HGC.out.2.1 HGC.out.2.2.1 HGC.out.2.2.2)
      have HRC : Hid ((wq.setCell ⟨gc, 3, none⟩ (.int .i64 (rNumV (Tkt.cc3 sj) 1 : Int))).heap[gc]? = some (.cells #[.int .i64 (rNumV sj 2 : Int), .int .i64 (rNumV (Tkt.cc1 sj) 4 : Int), .int .i64 zva, .int .i64 (rNumV (Tkt.cc3 sj) 1 : Int), .int .i64 0, .int .u64 0] 44 (0, 0))) := Lib.hid (heap_setCell_same _ _ _ _ _ _ HRC.out)
      clear hon
      generalize wq.setCell ⟨gc, 3, none⟩ (.int .i64 (rNumV (Tkt.cc3 sj) 1 : Int)) = wt at *
      refine (cTake_any w.heap.size (w.heap.size + 1) _ 2 _ HA.out.c).mono ?_
      rintro e wq ⟨rfl, hs⟩
      have HS0 := Lib.hid hs.2.1
      have HOX := Lib.hid (HA.out.keepO hs.2.1 HOX.out (by decide))
      have HA := Lib.hid (HA.out.step hs)
      clear hs
      have HRC := Lib.hid ((HS0.out.block _ (block_lt HRC.out) HGC.out.1).trans HRC.out)
      have HA : Hid (CA w wq (w.heap.size + 1) gt w.heap.size (Tkt.cc5 sj) #[.int .u64 (rNumV (some b) 8 : Int), .string ⟨(rBy (Tkt.q1 (some b)) 6).toArray⟩, .int .i64 (rNumV (Tkt.q2 (some b)) 4 : Int), .slice q j z, .slice none 0 0, .int .u64 (rNumV (Tkt.q3 (some b)) 8 : Int), .int .u64 (rNumV (Tkt.q4 (some b)) 8 : Int), .int .u64 (rNumV (Tkt.q5 (some b)) 8 : Int), .int .i64 zv, .int .i64 0, .slice none 0 0]) := Lib.hid HA.out
      have kw : IntKind.i64.wrap (rNumV (Tkt.cc4 sj) 2 : Int) = (rNumV (Tkt.cc4 sj) 2 : Int) := wrap_small (rNumV_lt (Tkt.cc4 sj) 2) (by decide)
      have kc := fun j => cell_of_row wq gc j _ _ _ HRC.out
      have kf := fun j => frozen_of_row wq gc j _ _ HRC.out
      go_wp2_with fail
      clear kc kf kw
      have hon := (Only.refl gc wq).setCell 4 (.int .i64 (rNumV (Tkt.cc4 sj) 2 : Int))
      have HOX := Lib.hid (recs_only HOX.out HNX.out hon)
      have HA := Lib.hid (HA.out.other hon HGC.out.1 HGC.out.2.1 HGC.out.2.2.1 HGC.out.2.2.2)
      have HRC : Hid ((wq.setCell ⟨gc, 4, none⟩ (.int .i64 (rNumV (Tkt.cc4 sj) 2 : Int))).heap[gc]? = some (.cells #[.int .i64 (rNumV sj 2 : Int), .int .i64 (rNumV (Tkt.cc1 sj) 4 : Int), .int .i64 zva, .int .i64 (rNumV (Tkt.cc3 sj) 1 : Int), .int .i64 (rNumV (Tkt.cc4 sj) 2 : Int), .int .u64 0] 44 (0, 0))) := Lib.hid (heap_setCell_same _ _ _ _ _ _ HRC.out)
      clear hon
      generalize wq.setCell ⟨gc, 4, none⟩ (.int .i64 (rNumV (Tkt.cc4 sj) 2 : Int)) = wt at *
      refine (cTake_any w.heap.size (w.heap.size + 1) _ 8 _ HA.out.c).mono ?_
      rintro e wq ⟨rfl, hs⟩
      have HS0 := Lib.hid hs.2.1
      have HOX := Lib.hid (HA.out.keepO hs.2.1 HOX.out (by decide))
      have HA := Lib.hid (HA.out.step hs)
      clear hs
      have HRC := Lib.hid ((HS0.out.block _ (block_lt HRC.out) HGC.out.1).trans HRC.out)
      have HA : Hid (CA w wq (w.heap.size + 1) gt w.heap.size (Tkt.cc6 sj) #[.int .u64 (rNumV (some b) 8 : Int), .string ⟨(rBy (Tkt.q1 (some b)) 6).toArray⟩, .int .i64 (rNumV (Tkt.q2 (some b)) 4 : Int), .slice q j z, .slice none 0 0, .int .u64 (rNumV (Tkt.q3 (some b)) 8 : Int), .int .u64 (rNumV (Tkt.q4 (some b)) 8 : Int), .int .u64 (rNumV (Tkt.q5 (some b)) 8 : Int), .int .i64 zv, .int .i64 0, .slice none 0 0]) := Lib.hid HA.out
      have kc := fun j => cell_of_row wq gc j _ _ _ HRC.out
      have kf := fun j => frozen_of_row wq gc j _ _ HRC.out
      go_upto_region 19 with fail
      clear kc kf
      have hon := (Only.refl gc wq).setCell 5 (.int .u64 (rNumV (Tkt.cc5 sj) 8 : Int))
      have HOX := Lib.hid (recs_only HOX.out HNX.out hon)
      have HA := Lib.hid (HA.out.other hon HGC.out.1 HGC.out.2.1 HGC.out.2.2.1 HGC.out.2.2.2)
      have HRC : Hid ((wq.setCell ⟨gc, 5, none⟩ (.int .u64 (rNumV (Tkt.cc5 sj) 8 : Int))).heap[gc]? = some (.cells #[.int .i64 (rNumV sj 2 : Int), .int .i64 (rNumV (Tkt.cc1 sj) 4 : Int), .int .i64 zva, .int .i64 (rNumV (Tkt.cc3 sj) 1 : Int), .int .i64 (rNumV (Tkt.cc4 sj) 2 : Int), .int .u64 (rNumV (Tkt.cc5 sj) 8 : Int)] 44 (0, 0))) := Lib.hid (heap_setCell_same _ _ _ _ _ _ HRC.out)
      clear hon
      generalize wq.setCell ⟨gc, 5, none⟩ (.int .u64 (rNumV (Tkt.cc5 sj) 8 : Int)) = wt at *
      obtain ⟨g1, g2⟩ := row_loT 6 HRC.out rfl rfl
      have kc := fun j => cell_of_row wt gt j _ _ _ HA.out.t
      have HBN := Lib.hid ((Below.refl wt.heap.size wt).alloc (Nat.le_refl _) (.cells #[.int .i64 (rNumV sj 2 : Int), .int .i64 (rNumV (Tkt.cc1 sj) 4 : Int), .int .i64 zva, .int .i64 (rNumV (Tkt.cc3 sj) 1 : Int), .int .i64 (rNumV (Tkt.cc4 sj) 2 : Int), .int .u64 (rNumV (Tkt.cc5 sj) 8 : Int)] 44 (0, 0)))
      have HO1 := Lib.hid (recs_below HOX.out HBN.out)
      have HL1 : Hid (LS Cpn.cells 6 (wt.alloc (.cells #[.int .i64 (rNumV sj 2 : Int), .int .i64 (rNumV (Tkt.cc1 sj) 4 : Int), .int .i64 zva, .int .i64 (rNumV (Tkt.cc3 sj) 1 : Int), .int .i64 (rNumV (Tkt.cc4 sj) 2 : Int), .int .u64 (rNumV (Tkt.cc5 sj) 8 : Int)] 44 (0, 0))) (.slice (some ⟨wt.heap.size, 0, none⟩) 1 1) [Tkt.gC sj]) := Lib.hid (row_one (enc := Cpn.cells) (x := Tkt.gC sj) (new_rowW _ _ _ rfl) (by first | rfl | (rw [← Hzva.out]; rfl) | (rw [← Hzam.out]; rfl)) Cpn.cells_length (by decide))
      have HA1 := Lib.hid (HA.out.below HBN.out)
      go_wp2_with (at_builtin; (refine wpList_append_recs elemCp rfl _ _ rfl w.heap.size _ j _ rfl HO1.out _ _ rfl HL1.out (by simp; omega) HA1.out.b.size ?_); intro v1 w9 hown1 hg1 hn1 hat1; (obtain ⟨q', z', hv1⟩ := rec_formT hown1); subst hv1; (have HA2 := Lib.hid (HA1.out.grown HO1.out hg1 (by decide) (by decide))); (have HO2 := Lib.hid hown1); clear hown1 hg1 hn1 hat1; (have kc2 := fun j => cell_of_row w9 gt j _ _ _ HA2.out.t); (have kf2 := fun j => frozen_of_row w9 gt j _ _ HA2.out.t))
      go_roundw
      case rel =>
        refine ⟨j + 1, q', z', by omega, by go_num, ?_, ?_⟩
        · show CA _ _ _ _ _ (Tkt.gCs (Tkt.itS Tkt.gCs j (Tkt.q8 (some b)))) _; rw [HSJ.out]; exact HA2.out.set 3 (.slice q' (j + 1) z')
        · have h := HA2.out.keepT HO2.out (by decide) 3 (.slice q' (j + 1) z')
          show World.ownsRow _ _ _ _ _ _ (encL Cpn.cells (Tkt.itL Tkt.gC Tkt.gCs j (Tkt.q8 (some b)) ++ [Tkt.gC (Tkt.itS Tkt.gCs j (Tkt.q8 (some b)))]))
          rw [HSJ.out]; exact h
      case measure => simp [intOf]; omega
    · have hjn : j = rNumV (Tkt.q7 (some b)) 1 := by omega
      subst hjn
      generalize q = qc at *
      generalize z = zc at *
      have HOC := HOX
      have HA : Hid (CA w wr (w.heap.size + 1) gt w.heap.size (Tkt.q9 (some b)) #[.int .u64 (rNumV (some b) 8 : Int), .string ⟨(rBy (Tkt.q1 (some b)) 6).toArray⟩, .int .i64 (rNumV (Tkt.q2 (some b)) 4 : Int), .slice qc (rNumV (Tkt.q7 (some b)) 1) zc, .slice none 0 0, .int .u64 (rNumV (Tkt.q3 (some b)) 8 : Int), .int .u64 (rNumV (Tkt.q4 (some b)) 8 : Int), .int .u64 (rNumV (Tkt.q5 (some b)) 8 : Int), .int .i64 zv, .int .i64 0, .slice none 0 0]) := Lib.hid HA.out
      go_wp2_with fail
      refine (cTake_any w.heap.size (w.heap.size + 1) _ 1 _ HA.out.c).mono ?_
      rintro e wq ⟨rfl, hs⟩
      have HS0 := Lib.hid hs.2.1
      have HOC := Lib.hid (HA.out.keepO hs.2.1 HOC.out (by decide))
      have HA := Lib.hid (HA.out.step hs)
      clear hs
      have kw : IntKind.i64.wrap (rNumV (Tkt.q9 (some b)) 1 : Int) = (rNumV (Tkt.q9 (some b)) 1 : Int) := wrap_small (rNumV_lt (Tkt.q9 (some b)) 1) (by decide)
      have hnb : rNumV (Tkt.q9 (some b)) 1 < 256 := rNumV_lt _ 1
      have HNB := Lib.hid hnb
      have HA : Hid (CA w wq (w.heap.size + 1) gt w.heap.size (Tkt.q10 (some b)) #[.int .u64 (rNumV (some b) 8 : Int), .string ⟨(rBy (Tkt.q1 (some b)) 6).toArray⟩, .int .i64 (rNumV (Tkt.q2 (some b)) 4 : Int), .slice qc (rNumV (Tkt.q7 (some b)) 1) zc, .slice none 0 0, .int .u64 (rNumV (Tkt.q3 (some b)) 8 : Int), .int .u64 (rNumV (Tkt.q4 (some b)) 8 : Int), .int .u64 (rNumV (Tkt.q5 (some b)) 8 : Int), .int .i64 zv, .int .i64 0, .slice none 0 0]) := Lib.hid HA.out
      go_wp2_with fail
      clear kw hnb
      go_loopw [9] (fun i wr => ∃ (j : Nat) (q : Option Addr) (z : Nat), j ≤ rNumV (Tkt.q9 (some b)) 1 ∧ i = .int .i64 j ∧ CA w wr (w.heap.size + 1) gt w.heap.size (Tkt.itS Tkt.gXs j (Tkt.q10 (some b))) #[.int .u64 (rNumV (some b) 8 : Int), .string ⟨(rBy (Tkt.q1 (some b)) 6).toArray⟩, .int .i64 (rNumV (Tkt.q2 (some b)) 4 : Int), .slice qc (rNumV (Tkt.q7 (some b)) 1) zc, .slice q j z, .int .u64 (rNumV (Tkt.q3 (some b)) 8 : Int), .int .u64 (rNumV (Tkt.q4 (some b)) 8 : Int), .int .u64 (rNumV (Tkt.q5 (some b)) 8 : Int), .int .i64 zv, .int .i64 0, .slice none 0 0] ∧ wr.ownsRow w.heap.size 48 2 (.slice q j z) j (encL Txx.cells (Tkt.itL Tkt.gX Tkt.gXs j (Tkt.q10 (some b)))) ∧ wr.ownsRow w.heap.size 44 6 (.slice qc (rNumV (Tkt.q7 (some b)) 1) zc) (rNumV (Tkt.q7 (some b)) 1) (encL Cpn.cells (Tkt.itL Tkt.gC Tkt.gCs (rNumV (Tkt.q7 (some b)) 1) (Tkt.q8 (some b))))) (fun i _ => rNumV (Tkt.q9 (some b)) 1 - (intOf i).toNat)
      case atStart => exact ⟨0, none, 0, Nat.zero_le _, rfl, HA.out, World.ownsRow_nil _ _ _ _, HOC.out⟩
      case round =>
        obtain ⟨j, q, z, hj, rfl, hA, hO, hHOC⟩ := hrel
        have hnb := HNB.out
        have HA := Lib.hid hA
        have HOX := Lib.hid hO
        have HOC := Lib.hid hHOC
        clear hA hO hHOC
        by_cases hlt : j < rNumV (Tkt.q9 (some b)) 1
        · obtain ⟨sj, hsj⟩ : ∃ s, Tkt.itS Tkt.gXs j (Tkt.q10 (some b)) = s := ⟨_, rfl⟩
          rw [hsj] at HA
          have HSJ := Lib.hid hsj
          clear hsj
          go_wp2_with fail
          refine (cTake_any w.heap.size (w.heap.size + 1) _ 1 _ HA.out.c).mono ?_
          rintro e wq ⟨rfl, hs⟩
          have HS0 := Lib.hid hs.2.1
          have HOC := Lib.hid (HA.out.keepO hs.2.1 HOC.out (by decide))
          have HOX := Lib.hid (HA.out.keepO hs.2.1 HOX.out (by decide))
          have HA := Lib.hid (HA.out.step hs)
          clear hs
          have HA : Hid (CA w wq (w.heap.size + 1) gt w.heap.size (Tkt.xx1 sj) #[.int .u64 (rNumV (some b) 8 : Int), .string ⟨(rBy (Tkt.q1 (some b)) 6).toArray⟩, .int .i64 (rNumV (Tkt.q2 (some b)) 4 : Int), .slice qc (rNumV (Tkt.q7 (some b)) 1) zc, .slice q j z, .int .u64 (rNumV (Tkt.q3 (some b)) 8 : Int), .int .u64 (rNumV (Tkt.q4 (some b)) 8 : Int), .int .u64 (rNumV (Tkt.q5 (some b)) 8 : Int), .int .i64 zv, .int .i64 0, .slice none 0 0]) := Lib.hid HA.out
          have kw : IntKind.i64.wrap (rNumV (sj) 1 : Int) = (rNumV (sj) 1 : Int) := wrap_small (rNumV_lt (sj) 1) (by decide)
          have tc := there_newT (w := wq) (zs := [.int .i64 0, .int .i64 0]) (e := 48) (n := 2) rfl
          have c6n : ([.int .i64 (rNumV sj 1 : Int), .int .i64 0] : List Value).length = 2 := rfl
          have c6c : ([.int .i64 (rNumV sj 1 : Int), .int .i64 0] : List Value).all (·.oneCell') = true := rfl
          go_wp2_with fail
          clear kw
          have HP := Lib.hid (putRec (W := wq) (e := 48) (zs := [.int .i64 0, .int .i64 0]) (cs := [.int .i64 (rNumV sj 1 : Int), .int .i64 0]) rfl)
          have HNX : Hid (∀ b, (Value.slice q j z).ownBlock = some b → b ≠ wq.heap.size) := Lib.hid (fun b hb => by have := (recs_base HOX.out hb).2; omega)
          have HGC : Hid (wq.heap.size ≠ (w.heap.size + 1) ∧ wq.heap.size ≠ gt ∧ wq.heap.size ≠ w.heap.size ∧ w.heap.size ≤ wq.heap.size) := Lib.hid (by have h1 := HA.out.c.lt; have h2 := block_lt HA.out.t; have h3 := block_lt HA.out.z; have h4 := HA.out.b.size; omega)
          have HOC := Lib.hid (recs_below HOC.out HP.out.2)
          have HOX := Lib.hid (recs_below HOX.out HP.out.2)
          have HA := Lib.hid (HA.out.below HP.out.2)
          have HRC := Lib.hid HP.out.1
          clear HP tc c6n c6c
          generalize (wq.alloc (.cells #[.int .i64 0, .int .i64 0] 48 (0, 0))).setCells wq.heap.size 0 [.int .i64 (rNumV sj 1 : Int), .int .i64 0] = wt at *
          generalize wq.heap.size = gc at *
          refine (cTake_any w.heap.size (w.heap.size + 1) _ 8 _ HA.out.c).mono ?_
          rintro e wq ⟨rfl, hs⟩
          have HS0 := Lib.hid hs.2.1
          have HOC := Lib.hid (HA.out.keepO hs.2.1 HOC.out (by decide))
          have HOX := Lib.hid (HA.out.keepO hs.2.1 HOX.out (by decide))
          have HA := Lib.hid (HA.out.step hs)
          clear hs
          have HRC := Lib.hid ((HS0.out.block _ (block_lt HRC.out) HGC.out.1).trans HRC.out)
          have HA : Hid (CA w wq (w.heap.size + 1) gt w.heap.size (Tkt.xx2 sj) #[.int .u64 (rNumV (some b) 8 : Int), .string ⟨(rBy (Tkt.q1 (some b)) 6).toArray⟩, .int .i64 (rNumV (Tkt.q2 (some b)) 4 : Int), .slice qc (rNumV (Tkt.q7 (some b)) 1) zc, .slice q j z, .int .u64 (rNumV (Tkt.q3 (some b)) 8 : Int), .int .u64 (rNumV (Tkt.q4 (some b)) 8 : Int), .int .u64 (rNumV (Tkt.q5 (some b)) 8 : Int), .int .i64 zv, .int .i64 0, .slice none 0 0]) := Lib.hid HA.out
          obtain ⟨zam, kw⟩ : ∃ z, IntKind.i64.wrap (rNumV (Tkt.xx1 sj) 8 : Int) = z := ⟨_, rfl⟩
          have Hzam := Lib.hid kw
          have kc := fun j => cell_of_row wq gc j _ _ _ HRC.out
          have kf := fun j => frozen_of_row wq gc j _ _ HRC.out
          go_upto_region 26 with fail
          clear kc kf kw
          have hon := (Only.refl gc wq).setCell 1 (.int .i64 zam)
          have HOC := Lib.hid (recs_only HOC.out (own_neT HOC.out HRC.out (by decide)) hon)
          have HOX := Lib.hid (recs_only HOX.out HNX.out hon)
          have HA := Lib.hid (HA.out.other hon HGC.out.1 HGC.out.2.1 HGC.out.2.2.1 HGC.out.2.2.2)
          have HRC : Hid ((wq.setCell ⟨gc, 1, none⟩ (.int .i64 zam)).heap[gc]? = some (.cells #[.int .i64 (rNumV sj 1 : Int), .int .i64 zam] 48 (0, 0))) := Lib.hid (heap_setCell_same _ _ _ _ _ _ HRC.out)
          clear hon
          generalize wq.setCell ⟨gc, 1, none⟩ (.int .i64 zam) = wt at *
          obtain ⟨g1, g2⟩ := row_loT 2 HRC.out rfl rfl
          have kc := fun j => cell_of_row wt gt j _ _ _ HA.out.t
          have HBN := Lib.hid ((Below.refl wt.heap.size wt).alloc (Nat.le_refl _) (.cells #[.int .i64 (rNumV sj 1 : Int), .int .i64 zam] 48 (0, 0)))
          have HO1 := Lib.hid (recs_below HOX.out HBN.out)
          have HL1 : Hid (LS Txx.cells 2 (wt.alloc (.cells #[.int .i64 (rNumV sj 1 : Int), .int .i64 zam] 48 (0, 0))) (.slice (some ⟨wt.heap.size, 0, none⟩) 1 1) [Tkt.gX sj]) := Lib.hid (row_one (enc := Txx.cells) (x := Tkt.gX sj) (new_rowW _ _ _ rfl) (by first | rfl | (rw [← Hzva.out]; rfl) | (rw [← Hzam.out]; rfl)) Txx.cells_length (by decide))
          have HA1 := Lib.hid (HA.out.below HBN.out)
          have HOC1 := Lib.hid (recs_below HOC.out HBN.out)
          go_wp2_with (at_builtin; (refine wpList_append_recs elemTx rfl _ _ rfl w.heap.size _ j _ rfl HO1.out _ _ rfl HL1.out (by simp; omega) HA1.out.b.size ?_); intro v1 w9 hown1 hg1 hn1 hat1; (obtain ⟨q', z', hv1⟩ := rec_formT hown1); subst hv1; (have HA2 := Lib.hid (HA1.out.grown HO1.out hg1 (by decide) (by decide))); (have HOC2 := Lib.hid (own_apartT HOC1.out HO1.out hg1 (by decide))); (have HO2 := Lib.hid hown1); clear hown1 hg1 hn1 hat1; (have kc2 := fun j => cell_of_row w9 gt j _ _ _ HA2.out.t); (have kf2 := fun j => frozen_of_row w9 gt j _ _ HA2.out.t))
          go_roundw
          case rel =>
            refine ⟨j + 1, q', z', by omega, by go_num, ?_, ?_, ?_⟩
            · show CA _ _ _ _ _ (Tkt.gXs (Tkt.itS Tkt.gXs j (Tkt.q10 (some b)))) _; rw [HSJ.out]; exact HA2.out.set 4 (.slice q' (j + 1) z')
            · have h := HA2.out.keepT HO2.out (by decide) 4 (.slice q' (j + 1) z')
              show World.ownsRow _ _ _ _ _ _ (encL Txx.cells (Tkt.itL Tkt.gX Tkt.gXs j (Tkt.q10 (some b)) ++ [Tkt.gX (Tkt.itS Tkt.gXs j (Tkt.q10 (some b)))]))
              rw [HSJ.out]; exact h
            · exact HA2.out.keepT HOC2.out (by decide) 4 (.slice q' (j + 1) z')
          case measure => simp [intOf]; omega
        · have hjn : j = rNumV (Tkt.q9 (some b)) 1 := by omega
          subst hjn
          generalize q = qx at *
          generalize z = zx at *
          have HOT := HOX
          have HA : Hid (CA w wr (w.heap.size + 1) gt w.heap.size (Tkt.q11 (some b)) #[.int .u64 (rNumV (some b) 8 : Int), .string ⟨(rBy (Tkt.q1 (some b)) 6).toArray⟩, .int .i64 (rNumV (Tkt.q2 (some b)) 4 : Int), .slice qc (rNumV (Tkt.q7 (some b)) 1) zc, .slice qx (rNumV (Tkt.q9 (some b)) 1) zx, .int .u64 (rNumV (Tkt.q3 (some b)) 8 : Int), .int .u64 (rNumV (Tkt.q4 (some b)) 8 : Int), .int .u64 (rNumV (Tkt.q5 (some b)) 8 : Int), .int .i64 zv, .int .i64 0, .slice none 0 0]) := Lib.hid HA.out
          go_wp2_with fail
          refine (cTake_any w.heap.size (w.heap.size + 1) _ 1 _ HA.out.c).mono ?_
          rintro e wq ⟨rfl, hs⟩
          have HS0 := Lib.hid hs.2.1
          have HOC := Lib.hid (HA.out.keepO hs.2.1 HOC.out (by decide))
          have HOT := Lib.hid (HA.out.keepO hs.2.1 HOT.out (by decide))
          have HA := Lib.hid (HA.out.step hs)
          clear hs
          have kc := fun j => cell_of_row wq gt j _ _ _ HA.out.t
          have kf := fun j => frozen_of_row wq gt j _ _ HA.out.t
          have kw : IntKind.i64.wrap (rNumV (Tkt.q11 (some b)) 1 : Int) = (rNumV (Tkt.q11 (some b)) 1 : Int) := wrap_small (rNumV_lt (Tkt.q11 (some b)) 1) (by decide)
          go_wp2_with fail
          clear kc kf kw
          have HOC := Lib.hid (HA.out.keepT HOC.out (by decide) 9 (.int .i64 (rNumV (Tkt.q11 (some b)) 1 : Int)))
          have HOT := Lib.hid (HA.out.keepT HOT.out (by decide) 9 (.int .i64 (rNumV (Tkt.q11 (some b)) 1 : Int)))
          have HA : Hid (CA w (wq.setCell ⟨gt, 9, none⟩ (.int .i64 (rNumV (Tkt.q11 (some b)) 1 : Int))) (w.heap.size + 1) gt w.heap.size (Tkt.q12 (some b)) #[.int .u64 (rNumV (some b) 8 : Int), .string ⟨(rBy (Tkt.q1 (some b)) 6).toArray⟩, .int .i64 (rNumV (Tkt.q2 (some b)) 4 : Int), .slice qc (rNumV (Tkt.q7 (some b)) 1) zc, .slice qx (rNumV (Tkt.q9 (some b)) 1) zx, .int .u64 (rNumV (Tkt.q3 (some b)) 8 : Int), .int .u64 (rNumV (Tkt.q4 (some b)) 8 : Int), .int .u64 (rNumV (Tkt.q5 (some b)) 8 : Int), .int .i64 zv, .int .i64 (rNumV (Tkt.q11 (some b)) 1 : Int), .slice none 0 0]) := Lib.hid (HA.out.set 9 _)
          generalize wq.setCell ⟨gt, 9, none⟩ (.int .i64 (rNumV (Tkt.q11 (some b)) 1 : Int)) = wt at *
          refine (cTake_any w.heap.size (w.heap.size + 1) _ 1 _ HA.out.c).mono ?_
          rintro e wq ⟨rfl, hs⟩
          have HS0 := Lib.hid hs.2.1
          have HOC := Lib.hid (HA.out.keepO hs.2.1 HOC.out (by decide))
          have HOT := Lib.hid (HA.out.keepO hs.2.1 HOT.out (by decide))
          have HA := Lib.hid (HA.out.step hs)
          clear hs
          have kw : IntKind.i64.wrap (rNumV (Tkt.q12 (some b)) 1 : Int) = (rNumV (Tkt.q12 (some b)) 1 : Int) := wrap_small (rNumV_lt (Tkt.q12 (some b)) 1) (by decide)
          have hnb : rNumV (Tkt.q12 (some b)) 1 < 256 := rNumV_lt _ 1
          have HNB := Lib.hid hnb
          have HA : Hid (CA w wq (w.heap.size + 1) gt w.heap.size (Tkt.q13 (some b)) #[.int .u64 (rNumV (some b) 8 : Int), .string ⟨(rBy (Tkt.q1 (some b)) 6).toArray⟩, .int .i64 (rNumV (Tkt.q2 (some b)) 4 : Int), .slice qc (rNumV (Tkt.q7 (some b)) 1) zc, .slice qx (rNumV (Tkt.q9 (some b)) 1) zx, .int .u64 (rNumV (Tkt.q3 (some b)) 8 : Int), .int .u64 (rNumV (Tkt.q4 (some b)) 8 : Int), .int .u64 (rNumV (Tkt.q5 (some b)) 8 : Int), .int .i64 zv, .int .i64 (rNumV (Tkt.q11 (some b)) 1 : Int), .slice none 0 0]) := Lib.hid HA.out
          go_wp2_with fail
          clear kw hnb
          go_loopw [11] (fun i wr => ∃ (j : Nat) (q : Option Addr) (z : Nat), j ≤ rNumV (Tkt.q12 (some b)) 1 ∧ i = .int .i64 j ∧ CA w wr (w.heap.size + 1) gt w.heap.size (Tkt.itS Tkt.gEs j (Tkt.q13 (some b))) #[.int .u64 (rNumV (some b) 8 : Int), .string ⟨(rBy (Tkt.q1 (some b)) 6).toArray⟩, .int .i64 (rNumV (Tkt.q2 (some b)) 4 : Int), .slice qc (rNumV (Tkt.q7 (some b)) 1) zc, .slice qx (rNumV (Tkt.q9 (some b)) 1) zx, .int .u64 (rNumV (Tkt.q3 (some b)) 8 : Int), .int .u64 (rNumV (Tkt.q4 (some b)) 8 : Int), .int .u64 (rNumV (Tkt.q5 (some b)) 8 : Int), .int .i64 zv, .int .i64 (rNumV (Tkt.q11 (some b)) 1 : Int), .slice q j z] ∧ wr.ownsRow w.heap.size 46 4 (.slice q j z) j (encL Evt.cells (Tkt.itL Tkt.gE Tkt.gEs j (Tkt.q13 (some b)))) ∧ wr.ownsRow w.heap.size 44 6 (.slice qc (rNumV (Tkt.q7 (some b)) 1) zc) (rNumV (Tkt.q7 (some b)) 1) (encL Cpn.cells (Tkt.itL Tkt.gC Tkt.gCs (rNumV (Tkt.q7 (some b)) 1) (Tkt.q8 (some b)))) ∧ wr.ownsRow w.heap.size 48 2 (.slice qx (rNumV (Tkt.q9 (some b)) 1) zx) (rNumV (Tkt.q9 (some b)) 1) (encL Txx.cells (Tkt.itL Tkt.gX Tkt.gXs (rNumV (Tkt.q9 (some b)) 1) (Tkt.q10 (some b))))) (fun i _ => rNumV (Tkt.q12 (some b)) 1 - (intOf i).toNat)
          case atStart => exact ⟨0, none, 0, Nat.zero_le _, rfl, HA.out, World.ownsRow_nil _ _ _ _, HOC.out, HOT.out⟩
          case round =>
            obtain ⟨j, q, z, hj, rfl, hA, hO, hHOC, hHOT⟩ := hrel
            have hnb := HNB.out
            have HA := Lib.hid hA
            have HOX := Lib.hid hO
            have HOC := Lib.hid hHOC
            have HOT := Lib.hid hHOT
            clear hA hO hHOC hHOT
            by_cases hlt : j < rNumV (Tkt.q12 (some b)) 1
            · obtain ⟨sj, hsj⟩ : ∃ s, Tkt.itS Tkt.gEs j (Tkt.q13 (some b)) = s := ⟨_, rfl⟩
              rw [hsj] at HA
              have HSJ := Lib.hid hsj
              clear hsj
              go_wp2_with fail
              refine (cTake_any w.heap.size (w.heap.size + 1) _ 4 _ HA.out.c).mono ?_
              rintro e wq ⟨rfl, hs⟩
              have HS0 := Lib.hid hs.2.1
              have HOC := Lib.hid (HA.out.keepO hs.2.1 HOC.out (by decide))
              have HOT := Lib.hid (HA.out.keepO hs.2.1 HOT.out (by decide))
              have HOX := Lib.hid (HA.out.keepO hs.2.1 HOX.out (by decide))
              have HA := Lib.hid (HA.out.step hs)
              clear hs
              have HA : Hid (CA w wq (w.heap.size + 1) gt w.heap.size (Tkt.ee1 sj) #[.int .u64 (rNumV (some b) 8 : Int), .string ⟨(rBy (Tkt.q1 (some b)) 6).toArray⟩, .int .i64 (rNumV (Tkt.q2 (some b)) 4 : Int), .slice qc (rNumV (Tkt.q7 (some b)) 1) zc, .slice qx (rNumV (Tkt.q9 (some b)) 1) zx, .int .u64 (rNumV (Tkt.q3 (some b)) 8 : Int), .int .u64 (rNumV (Tkt.q4 (some b)) 8 : Int), .int .u64 (rNumV (Tkt.q5 (some b)) 8 : Int), .int .i64 zv, .int .i64 (rNumV (Tkt.q11 (some b)) 1 : Int), .slice q j z]) := Lib.hid HA.out
              have kw : IntKind.i64.wrap (rNumV (sj) 4 : Int) = (rNumV (sj) 4 : Int) := wrap_small (rNumV_lt (sj) 4) (by decide)
              have tc := there_newT (w := wq) (zs := [.int .i64 0, .int .i64 0, .int .i64 0, .int .i64 0]) (e := 46) (n := 4) rfl
              have c6n : ([.int .i64 (rNumV sj 4 : Int), .int .i64 0, .int .i64 0, .int .i64 0] : List Value).length = 4 := rfl
              have c6c : ([.int .i64 (rNumV sj 4 : Int), .int .i64 0, .int .i64 0, .int .i64 0] : List Value).all (·.oneCell') = true := rfl
              go_wp2_with fail
              clear kw
              have HP := Lib.hid (putRec (W := wq) (e := 46) (zs := [.int .i64 0, .int .i64 0, .int .i64 0, .int .i64 0]) (cs := [.int .i64 (rNumV sj 4 : Int), .int .i64 0, .int .i64 0, .int .i64 0]) rfl)
              have HNX : Hid (∀ b, (Value.slice q j z).ownBlock = some b → b ≠ wq.heap.size) := Lib.hid (fun b hb => by have := (recs_base HOX.out hb).2; omega)
              have HGC : Hid (wq.heap.size ≠ (w.heap.size + 1) ∧ wq.heap.size ≠ gt ∧ wq.heap.size ≠ w.heap.size ∧ w.heap.size ≤ wq.heap.size) := Lib.hid (by have h1 := HA.out.c.lt; have h2 := block_lt HA.out.t; have h3 := block_lt HA.out.z; have h4 := HA.out.b.size; omega)
              have HOC := Lib.hid (recs_below HOC.out HP.out.2)
              have HOT := Lib.hid (recs_below HOT.out HP.out.2)
              have HOX := Lib.hid (recs_below HOX.out HP.out.2)
              have HA := Lib.hid (HA.out.below HP.out.2)
              have HRC := Lib.hid HP.out.1
              clear HP tc c6n c6c
              generalize (wq.alloc (.cells #[.int .i64 0, .int .i64 0, .int .i64 0, .int .i64 0] 46 (0, 0))).setCells wq.heap.size 0 [.int .i64 (rNumV sj 4 : Int), .int .i64 0, .int .i64 0, .int .i64 0] = wt at *
              generalize wq.heap.size = gc at *
              refine (cTake_any w.heap.size (w.heap.size + 1) _ 1 _ HA.out.c).mono ?_
              rintro e wq ⟨rfl, hs⟩
              have HS0 := Lib.hid hs.2.1
              have HOC := Lib.hid (HA.out.keepO hs.2.1 HOC.out (by decide))
              have HOT := Lib.hid (HA.out.keepO hs.2.1 HOT.out (by decide))
              have HOX := Lib.hid (HA.out.keepO hs.2.1 HOX.out (by decide))
              have HA := Lib.hid (HA.out.step hs)
              clear hs
              have HRC := Lib.hid ((HS0.out.block _ (block_lt HRC.out) HGC.out.1).trans HRC.out)
              have HA : Hid (CA w wq (w.heap.size + 1) gt w.heap.size (Tkt.ee2 sj) #[.int .u64 (rNumV (some b) 8 : Int), .string ⟨(rBy (Tkt.q1 (some b)) 6).toArray⟩, .int .i64 (rNumV (Tkt.q2 (some b)) 4 : Int), .slice qc (rNumV (Tkt.q7 (some b)) 1) zc, .slice qx (rNumV (Tkt.q9 (some b)) 1) zx, .int .u64 (rNumV (Tkt.q3 (some b)) 8 : Int), .int .u64 (rNumV (Tkt.q4 (some b)) 8 : Int), .int .u64 (rNumV (Tkt.q5 (some b)) 8 : Int), .int .i64 zv, .int .i64 (rNumV (Tkt.q11 (some b)) 1 : Int), .slice q j z]) := Lib.hid HA.out
              have kw : IntKind.i64.wrap (rNumV (Tkt.ee1 sj) 1 : Int) = (rNumV (Tkt.ee1 sj) 1 : Int) := wrap_small (rNumV_lt (Tkt.ee1 sj) 1) (by decide)
              have kc := fun j => cell_of_row wq gc j _ _ _ HRC.out
              have kf := fun j => frozen_of_row wq gc j _ _ HRC.out
              go_wp2_with fail
              clear kc kf kw
              have hon := (Only.refl gc wq).setCell 1 (.int .i64 (rNumV (Tkt.ee1 sj) 1 : Int))
              have HOC := Lib.hid (recs_only HOC.out (own_neT HOC.out HRC.out (by decide)) hon)
              have HOT := Lib.hid (recs_only HOT.out (own_neT HOT.out HRC.out (by decide)) hon)
              have HOX := Lib.hid (recs_only HOX.out HNX.out hon)
              have HA := Lib.hid (HA.out.other hon HGC.out.1 HGC.out.2.1 HGC.out.2.2.1 HGC.out.2.2.2)
              have HRC : Hid ((wq.setCell ⟨gc, 1, none⟩ (.int .i64 (rNumV (Tkt.ee1 sj) 1 : Int))).heap[gc]? = some (.cells #[.int .i64 (rNumV sj 4 : Int), .int .i64 (rNumV (Tkt.ee1 sj) 1 : Int), .int .i64 0, .int .i64 0] 46 (0, 0))) := Lib.hid (heap_setCell_same _ _ _ _ _ _ HRC.out)
              clear hon
              generalize wq.setCell ⟨gc, 1, none⟩ (.int .i64 (rNumV (Tkt.ee1 sj) 1 : Int)) = wt at *
              refine (cTake_any w.heap.size (w.heap.size + 1) _ 1 _ HA.out.c).mono ?_
              rintro e wq ⟨rfl, hs⟩
              have HS0 := Lib.hid hs.2.1
              have HOC := Lib.hid (HA.out.keepO hs.2.1 HOC.out (by decide))
              have HOT := Lib.hid (HA.out.keepO hs.2.1 HOT.out (by decide))
              have HOX := Lib.hid (HA.out.keepO hs.2.1 HOX.out (by decide))
              have HA := Lib.hid (HA.out.step hs)
              clear hs
              have HRC := Lib.hid ((HS0.out.block _ (block_lt HRC.out) HGC.out.1).trans HRC.out)
              have HA : Hid (CA w wq (w.heap.size + 1) gt w.heap.size (Tkt.ee3 sj) #[.int .u64 (rNumV (some b) 8 : Int), .string ⟨(rBy (Tkt.q1 (some b)) 6).toArray⟩, .int .i64 (rNumV (Tkt.q2 (some b)) 4 : Int), .slice qc (rNumV (Tkt.q7 (some b)) 1) zc, .slice qx (rNumV (Tkt.q9 (some b)) 1) zx, .int .u64 (rNumV (Tkt.q3 (some b)) 8 : Int), .int .u64 (rNumV (Tkt.q4 (some b)) 8 : Int), .int .u64 (rNumV (Tkt.q5 (some b)) 8 : Int), .int .i64 zv, .int .i64 (rNumV (Tkt.q11 (some b)) 1 : Int), .slice q j z]) := Lib.hid HA.out
              have kw : IntKind.i64.wrap (rNumV (Tkt.ee2 sj) 1 : Int) = (rNumV (Tkt.ee2 sj) 1 : Int) := wrap_small (rNumV_lt (Tkt.ee2 sj) 1) (by decide)
              have kc := fun j => cell_of_row wq gc j _ _ _ HRC.out
              have kf := fun j => frozen_of_row wq gc j _ _ HRC.out
              go_wp2_with fail
              clear kc kf kw
              have hon := (Only.refl gc wq).setCell 2 (.int .i64 (rNumV (Tkt.ee2 sj) 1 : Int))
              have HOC := Lib.hid (recs_only HOC.out (own_neT HOC.out HRC.out (by decide)) hon)
              have HOT := Lib.hid (recs_only HOT.out (own_neT HOT.out HRC.out (by decide)) hon)
              have HOX := Lib.hid (recs_only HOX.out HNX.out hon)
              have HA := Lib.hid (HA.out.other hon HGC.out.1 HGC.out.2.1 HGC.out.2.2.1 HGC.out.2.2.2)
              have HRC : Hid ((wq.setCell ⟨gc, 2, none⟩ (.int .i64 (rNumV (Tkt.ee2 sj) 1 : Int))).heap[gc]? = some (.cells #[.int .i64 (rNumV sj 4 : Int), .int .i64 (rNumV (Tkt.ee1 sj) 1 : Int), .int .i64 (rNumV (Tkt.ee2 sj) 1 : Int), .int .i64 0] 46 (0, 0))) := Lib.hid (heap_setCell_same _ _ _ _ _ _ HRC.out)
              clear hon
              generalize wq.setCell ⟨gc, 2, none⟩ (.int .i64 (rNumV (Tkt.ee2 sj) 1 : Int)) = wt at *
              refine (cTake_any w.heap.size (w.heap.size + 1) _ 1 _ HA.out.c).mono ?_
              rintro e wq ⟨rfl, hs⟩
              have HS0 := Lib.hid hs.2.1
              have HOC := Lib.hid (HA.out.keepO hs.2.1 HOC.out (by decide))
              have HOT := Lib.hid (HA.out.keepO hs.2.1 HOT.out (by decide))
              have HOX := Lib.hid (HA.out.keepO hs.2.1 HOX.out (by decide))
              have HA := Lib.hid (HA.out.step hs)
              clear hs
              have HRC := Lib.hid ((HS0.out.block _ (block_lt HRC.out) HGC.out.1).trans HRC.out)
              have HA : Hid (CA w wq (w.heap.size + 1) gt w.heap.size (Tkt.ee4 sj) #[.int .u64 (rNumV (some b) 8 : Int), .string ⟨(rBy (Tkt.q1 (some b)) 6).toArray⟩, .int .i64 (rNumV (Tkt.q2 (some b)) 4 : Int), .slice qc (rNumV (Tkt.q7 (some b)) 1) zc, .slice qx (rNumV (Tkt.q9 (some b)) 1) zx, .int .u64 (rNumV (Tkt.q3 (some b)) 8 : Int), .int .u64 (rNumV (Tkt.q4 (some b)) 8 : Int), .int .u64 (rNumV (Tkt.q5 (some b)) 8 : Int), .int .i64 zv, .int .i64 (rNumV (Tkt.q11 (some b)) 1 : Int), .slice q j z]) := Lib.hid HA.out
              have kw : IntKind.i64.wrap (rNumV (Tkt.ee3 sj) 1 : Int) = (rNumV (Tkt.ee3 sj) 1 : Int) := wrap_small (rNumV_lt (Tkt.ee3 sj) 1) (by decide)
              have kc := fun j => cell_of_row wq gc j _ _ _ HRC.out
              have kf := fun j => frozen_of_row wq gc j _ _ HRC.out
              go_upto_region 36 with fail
              clear kc kf kw
              have hon := (Only.refl gc wq).setCell 3 (.int .i64 (rNumV (Tkt.ee3 sj) 1 : Int))
              have HOC := Lib.hid (recs_only HOC.out (own_neT HOC.out HRC.out (by decide)) hon)
              have HOT := Lib.hid (recs_only HOT.out (own_neT HOT.out HRC.out (by decide)) hon)
              have HOX := Lib.hid (recs_only HOX.out HNX.out hon)
              have HA := Lib.hid (HA.out.other hon HGC.out.1 HGC.out.2.1 HGC.out.2.2.1 HGC.out.2.2.2)
              have HRC : Hid ((wq.setCell ⟨gc, 3, none⟩ (.int .i64 (rNumV (Tkt.ee3 sj) 1 : Int))).heap[gc]? = some (.cells #[.int .i64 (rNumV sj 4 : Int), .int .i64 (rNumV (Tkt.ee1 sj) 1 : Int), .int .i64 (rNumV (Tkt.ee2 sj) 1 : Int), .int .i64 (rNumV (Tkt.ee3 sj) 1 : Int)] 46 (0, 0))) := Lib.hid (heap_setCell_same _ _ _ _ _ _ HRC.out)
              clear hon
              generalize wq.setCell ⟨gc, 3, none⟩ (.int .i64 (rNumV (Tkt.ee3 sj) 1 : Int)) = wt at *
              obtain ⟨g1, g2⟩ := row_loT 4 HRC.out rfl rfl
              have kc := fun j => cell_of_row wt gt j _ _ _ HA.out.t
              have HBN := Lib.hid ((Below.refl wt.heap.size wt).alloc (Nat.le_refl _) (.cells #[.int .i64 (rNumV sj 4 : Int), .int .i64 (rNumV (Tkt.ee1 sj) 1 : Int), .int .i64 (rNumV (Tkt.ee2 sj) 1 : Int), .int .i64 (rNumV (Tkt.ee3 sj) 1 : Int)] 46 (0, 0)))
              have HO1 := Lib.hid (recs_below HOX.out HBN.out)
              have HL1 : Hid (LS Evt.cells 4 (wt.alloc (.cells #[.int .i64 (rNumV sj 4 : Int), .int .i64 (rNumV (Tkt.ee1 sj) 1 : Int), .int .i64 (rNumV (Tkt.ee2 sj) 1 : Int), .int .i64 (rNumV (Tkt.ee3 sj) 1 : Int)] 46 (0, 0))) (.slice (some ⟨wt.heap.size, 0, none⟩) 1 1) [Tkt.gE sj]) := Lib.hid (row_one (enc := Evt.cells) (x := Tkt.gE sj) (new_rowW _ _ _ rfl) (by first | rfl | (rw [← Hzva.out]; rfl) | (rw [← Hzam.out]; rfl)) Evt.cells_length (by decide))
              have HA1 := Lib.hid (HA.out.below HBN.out)
              have HOC1 := Lib.hid (recs_below HOC.out HBN.out)
              have HOT1 := Lib.hid (recs_below HOT.out HBN.out)
              go_wp2_with (at_builtin; (refine wpList_append_recs elemEv rfl _ _ rfl w.heap.size _ j _ rfl HO1.out _ _ rfl HL1.out (by simp; omega) HA1.out.b.size ?_); intro v1 w9 hown1 hg1 hn1 hat1; (obtain ⟨q', z', hv1⟩ := rec_formT hown1); subst hv1; (have HA2 := Lib.hid (HA1.out.grown HO1.out hg1 (by decide) (by decide))); (have HOC2 := Lib.hid (own_apartT HOC1.out HO1.out hg1 (by decide))); (have HOT2 := Lib.hid (own_apartT HOT1.out HO1.out hg1 (by decide))); (have HO2 := Lib.hid hown1); clear hown1 hg1 hn1 hat1; (have kc2 := fun j => cell_of_row w9 gt j _ _ _ HA2.out.t); (have kf2 := fun j => frozen_of_row w9 gt j _ _ HA2.out.t))
              go_roundw
              case rel =>
                refine ⟨j + 1, q', z', by omega, by go_num, ?_, ?_, ?_, ?_⟩
                · show CA _ _ _ _ _ (Tkt.gEs (Tkt.itS Tkt.gEs j (Tkt.q13 (some b)))) _; rw [HSJ.out]; exact HA2.out.set 10 (.slice q' (j + 1) z')
                · have h := HA2.out.keepT HO2.out (by decide) 10 (.slice q' (j + 1) z')
                  show World.ownsRow _ _ _ _ _ _ (encL Evt.cells (Tkt.itL Tkt.gE Tkt.gEs j (Tkt.q13 (some b)) ++ [Tkt.gE (Tkt.itS Tkt.gEs j (Tkt.q13 (some b)))]))
                  rw [HSJ.out]; exact h
                · exact HA2.out.keepT HOC2.out (by decide) 10 (.slice q' (j + 1) z')
                · exact HA2.out.keepT HOT2.out (by decide) 10 (.slice q' (j + 1) z')
              case measure => simp [intOf]; omega
            · have hjn : j = rNumV (Tkt.q12 (some b)) 1 := by omega
              subst hjn
              generalize q = qh at *
              generalize z = zh at *
              have HOE := HOX
              have HA : Hid (CA w wr (w.heap.size + 1) gt w.heap.size (Tkt.q14 (some b)) #[.int .u64 (rNumV (some b) 8 : Int), .string ⟨(rBy (Tkt.q1 (some b)) 6).toArray⟩, .int .i64 (rNumV (Tkt.q2 (some b)) 4 : Int), .slice qc (rNumV (Tkt.q7 (some b)) 1) zc, .slice qx (rNumV (Tkt.q9 (some b)) 1) zx, .int .u64 (rNumV (Tkt.q3 (some b)) 8 : Int), .int .u64 (rNumV (Tkt.q4 (some b)) 8 : Int), .int .u64 (rNumV (Tkt.q5 (some b)) 8 : Int), .int .i64 zv, .int .i64 (rNumV (Tkt.q11 (some b)) 1 : Int), .slice qh (rNumV (Tkt.q12 (some b)) 1) zh]) := Lib.hid HA.out
              obtain ⟨c, hslc⟩ : ∃ s : Sl, (⟨qc, rNumV (Tkt.q7 (some b)) 1, zc⟩ : Sl) = s := ⟨_, rfl⟩
              have O1 : Hid (wr.ownsRow w.heap.size 44 6 (.slice c.p c.n c.c) (Tkt.gT (some b)).cs.length (encL Cpn.cells (Tkt.gT (some b)).cs)) := Lib.hid (by have e : (Tkt.gT (some b)).cs.length = rNumV (Tkt.q7 (some b)) 1 := (recs_cases HOC.out Cpn.cells_length (by decide)).1.symm; rw [e, ← hslc]; exact HOC.out)
              obtain ⟨x, hslx⟩ : ∃ s : Sl, (⟨qx, rNumV (Tkt.q9 (some b)) 1, zx⟩ : Sl) = s := ⟨_, rfl⟩
              have O2 : Hid (wr.ownsRow w.heap.size 48 2 (.slice x.p x.n x.c) (Tkt.gT (some b)).ts.length (encL Txx.cells (Tkt.gT (some b)).ts)) := Lib.hid (by have e : (Tkt.gT (some b)).ts.length = rNumV (Tkt.q9 (some b)) 1 := (recs_cases HOT.out Txx.cells_length (by decide)).1.symm; rw [e, ← hslx]; exact HOT.out)
              obtain ⟨h, hslh⟩ : ∃ s : Sl, (⟨qh, rNumV (Tkt.q12 (some b)) 1, zh⟩ : Sl) = s := ⟨_, rfl⟩
              have O3 : Hid (wr.ownsRow w.heap.size 46 4 (.slice h.p h.n h.c) (Tkt.gT (some b)).hs.length (encL Evt.cells (Tkt.gT (some b)).hs)) := Lib.hid (by have e : (Tkt.gT (some b)).hs.length = rNumV (Tkt.q12 (some b)) 1 := (recs_cases HOE.out Evt.cells_length (by decide)).1.symm; rw [e, ← hslh]; exact HOE.out)
              have HTS := Lib.hid (TS.of_own (Tkt.gT_wf (some b)) O1.out O2.out O3.out)
              have HM := Lib.hid (fun W hW => rmay_any (Tkt.gT (some b)) c x h W (HTS.out.below hW))
              have HK : Hid (CA w wr (w.heap.size + 1) gt w.heap.size (Tkt.q14 (some b)) #[.int .u64 (Tkt.gT (some b)).num, .string (Tkt.gT (some b)).loc, .int .i64 (Tkt.gT (some b)).iss, .slice c.p c.n c.c, .slice x.p x.n x.c, .int .u64 (Tkt.gT (some b)).prev, .int .u64 (Tkt.gT (some b)).org, .int .u64 (Tkt.gT (some b)).fst, .int .i64 (Tkt.gT (some b)).vou, .int .i64 (Tkt.gT (some b)).posts, .slice h.p h.n h.c]) := Lib.hid (by rw [← hslc, ← hslx, ← hslh]; have k := HA.out; rw [← Hzv.out] at k; exact k)
              clear hslc hslx hslh
              obtain ⟨T, hT⟩ : ∃ T, Tkt.gT (some b) = T := ⟨_, rfl⟩
              have HOK : Hid (Tkt.okT b = (decide (Tkt.q14 (some b) = some []) && Tkt.mayB T)) := Lib.hid (by unfold Tkt.okT; rw [hT])
              have HOF : Hid (Tkt.ofT b = if Tkt.okT b = true then T else Tkt.zTk) := Lib.hid (by unfold Tkt.ofT; rw [hT])
              rw [hT] at HK O1 O2 O3 HTS HM
              obtain ⟨q, hq⟩ : ∃ q, Tkt.q14 (some b) = q := ⟨_, rfl⟩
              rw [hq] at HK HOK
              clear hT hq
              replace HA := HK
              clear HK
              obtain ⟨mb, hmb⟩ : ∃ m, Tkt.mayB T = m := ⟨_, rfl⟩
              rw [hmb] at HM HOK
              clear hmb
              rw [HOKD.out] at HOK HOF
              obtain ⟨hb0, v1, b1, bad, g1, g2, g3⟩ := HA.out.c
              obtain ⟨p1, c1, hv1⟩ : ∃ p c, v1 = .slice p b1.length c := by obtain ⟨p, c, h, -⟩ := g2 wr (Below.refl _ _); exact ⟨_, _, h⟩
              subst hv1
              have kc := fun j => cell_of_row wr (w.heap.size + 1) j _ _ _ g1
              have HQ := Lib.hid g3
              clear g1 g2 g3 hb0
              cases bad
              · cases b1 with
                | cons e0 l0 =>
                  have hlen : ((e0 :: l0).length : Int) > 0 := by simp only [List.length_cons]; omega
                  obtain rfl : ok = false := by rw [HOK.out, HQ.out]; simp
                  have th := there_rowT (n := 11) HA.out.z rfl
                  have h1n : ([.int .u64 0, .string ⟨#[]⟩, .int .i64 0, .slice none 0 0, .slice none 0 0, .int .u64 0, .int .u64 0, .int .u64 0, .int .i64 0, .int .i64 0, .slice none 0 0] : List Value).length = 11 := rfl
                  have h1c : ([.int .u64 0, .string ⟨#[]⟩, .int .i64 0, .slice none 0 0, .slice none 0 0, .int .u64 0, .int .u64 0, .int .u64 0, .int .i64 0, .int .i64 0, .slice none 0 0] : List Value).all (·.oneCell') = true := rfl
                  go_wp2_with fail
                  have hr6 := setCells_rowT (g := w.heap.size) (cs := [.int .u64 0, .string ⟨#[]⟩, .int .i64 0, .slice none 0 0, .slice none 0 0, .int .u64 0, .int .u64 0, .int .u64 0, .int .i64 0, .int .i64 0, .slice none 0 0]) HA.out.z rfl
                  (try simp only [Exit.inBlock, Exit.then])
                  refine bodyPost_ret (results_cellT2 rfl _ _ w.heap.size rfl (loadTk hr6 rfl)) rfl ?_
                  have e0 : Tkt.ofT b = Tkt.zTk := by rw [HOF.out]; exact if_neg (by simp)
                  rw [e0]
                  clear e0
                  exact ⟨⟨none, 0, 0⟩, ⟨none, 0, 0⟩, ⟨none, 0, 0⟩, rfl, World.ownsRow_nil _ _ _ _, World.ownsRow_nil _ _ _ _, World.ownsRow_nil _ _ _ _, Only.below HA.out.b (Nat.le_refl _) HA.out.b.size ((Only.refl w.heap.size _).setCells 0 _)⟩
                | nil =>
                  obtain ⟨f1, f2⟩ := row_loT 11 HA.out.t rfl rfl
                  go_wp2_with fail
                  refine (HM.out _ (Below.refl _ _)).mono ?_
                  rintro e w6 ⟨rfl, hbn⟩
                  clear f1 f2 kc
                  have HA := Lib.hid (HA.out.below hbn)
                  have P1 := Lib.hid (recs_below O1.out hbn)
                  have P2 := Lib.hid (recs_below O2.out hbn)
                  have P3 := Lib.hid (recs_below O3.out hbn)
                  clear hbn
                  cases mb
                  · obtain rfl : ok = false := by rw [HOK.out, Bool.and_false]; (first | done | simp)
                    have th := there_rowT (n := 11) HA.out.z rfl
                    have h1n : ([.int .u64 0, .string ⟨#[]⟩, .int .i64 0, .slice none 0 0, .slice none 0 0, .int .u64 0, .int .u64 0, .int .u64 0, .int .i64 0, .int .i64 0, .slice none 0 0] : List Value).length = 11 := rfl
                    have h1c : ([.int .u64 0, .string ⟨#[]⟩, .int .i64 0, .slice none 0 0, .slice none 0 0, .int .u64 0, .int .u64 0, .int .u64 0, .int .i64 0, .int .i64 0, .slice none 0 0] : List Value).all (·.oneCell') = true := rfl
                    go_wp2_with fail
                    have hr6 := setCells_rowT (g := w.heap.size) (cs := [.int .u64 0, .string ⟨#[]⟩, .int .i64 0, .slice none 0 0, .slice none 0 0, .int .u64 0, .int .u64 0, .int .u64 0, .int .i64 0, .int .i64 0, .slice none 0 0]) HA.out.z rfl
                    (try simp only [Exit.inBlock, Exit.then])
                    refine bodyPost_ret (results_cellT2 rfl _ _ w.heap.size rfl (loadTk hr6 rfl)) rfl ?_
                    have e0 : Tkt.ofT b = Tkt.zTk := by rw [HOF.out]; exact if_neg (by simp)
                    rw [e0]
                    clear e0
                    exact ⟨⟨none, 0, 0⟩, ⟨none, 0, 0⟩, ⟨none, 0, 0⟩, rfl, World.ownsRow_nil _ _ _ _, World.ownsRow_nil _ _ _ _, World.ownsRow_nil _ _ _ _, Only.below HA.out.b (Nat.le_refl _) HA.out.b.size ((Only.refl w.heap.size _).setCells 0 _)⟩
                  · obtain rfl : ok = true := by rw [HOK.out, HQ.out]; rfl
                    obtain ⟨f1, f2⟩ := row_loT 11 HA.out.t rfl rfl
                    have th := there_rowT (n := 11) HA.out.z rfl
                    have h1n : ([.int .u64 T.num, .string T.loc, .int .i64 T.iss, .slice c.p c.n c.c, .slice x.p x.n x.c, .int .u64 T.prev, .int .u64 T.org, .int .u64 T.fst, .int .i64 T.vou, .int .i64 T.posts, .slice h.p h.n h.c] : List Value).length = 11 := rfl
                    have h1c : ([.int .u64 T.num, .string T.loc, .int .i64 T.iss, .slice c.p c.n c.c, .slice x.p x.n x.c, .int .u64 T.prev, .int .u64 T.org, .int .u64 T.fst, .int .i64 T.vou, .int .i64 T.posts, .slice h.p h.n h.c] : List Value).all (·.oneCell') = true := rfl
                    go_wp2_with fail
                    have hr6 := setCells_rowT (g := w.heap.size) (cs := [.int .u64 T.num, .string T.loc, .int .i64 T.iss, .slice c.p c.n c.c, .slice x.p x.n x.c, .int .u64 T.prev, .int .u64 T.org, .int .u64 T.fst, .int .i64 T.vou, .int .i64 T.posts, .slice h.p h.n h.c]) HA.out.z rfl
                    (try simp only [Exit.inBlock, Exit.then])
                    refine bodyPost_ret (results_cellT2 rfl _ _ w.heap.size rfl (loadTk hr6 rfl)) rfl ?_
                    have e0 : Tkt.ofT b = T := by rw [HOF.out]; simp
                    rw [e0]
                    clear e0
                    exact ⟨c, x, h, rfl, recs_only P1.out (own_neT P1.out HA.out.z (by decide)) ((Only.refl w.heap.size _).setCells 0 _), recs_only P2.out (own_neT P2.out HA.out.z (by decide)) ((Only.refl w.heap.size _).setCells 0 _), recs_only P3.out (own_neT P3.out HA.out.z (by decide)) ((Only.refl w.heap.size _).setCells 0 _), Only.below HA.out.b (Nat.le_refl _) HA.out.b.size ((Only.refl w.heap.size _).setCells 0 _)⟩
              · obtain rfl : ok = false := by rw [HOK.out, HQ.out]; (first | done | simp)
                have th := there_rowT (n := 11) HA.out.z rfl
                have h1n : ([.int .u64 0, .string ⟨#[]⟩, .int .i64 0, .slice none 0 0, .slice none 0 0, .int .u64 0, .int .u64 0, .int .u64 0, .int .i64 0, .int .i64 0, .slice none 0 0] : List Value).length = 11 := rfl
                have h1c : ([.int .u64 0, .string ⟨#[]⟩, .int .i64 0, .slice none 0 0, .slice none 0 0, .int .u64 0, .int .u64 0, .int .u64 0, .int .i64 0, .int .i64 0, .slice none 0 0] : List Value).all (·.oneCell') = true := rfl
                go_wp2_with fail
                have hr6 := setCells_rowT (g := w.heap.size) (cs := [.int .u64 0, .string ⟨#[]⟩, .int .i64 0, .slice none 0 0, .slice none 0 0, .int .u64 0, .int .u64 0, .int .u64 0, .int .i64 0, .int .i64 0, .slice none 0 0]) HA.out.z rfl
                (try simp only [Exit.inBlock, Exit.then])
                refine bodyPost_ret (results_cellT2 rfl _ _ w.heap.size rfl (loadTk hr6 rfl)) rfl ?_
                have e0 : Tkt.ofT b = Tkt.zTk := by rw [HOF.out]; exact if_neg (by simp)
                rw [e0]
                clear e0
                exact ⟨⟨none, 0, 0⟩, ⟨none, 0, 0⟩, ⟨none, 0, 0⟩, rfl, World.ownsRow_nil _ _ _ _, World.ownsRow_nil _ _ _ _, World.ownsRow_nil _ _ _ _, Only.below HA.out.b (Nat.le_refl _) HA.out.b.size ((Only.refl w.heap.size _).setCells 0 _)⟩

end Go.Proofs.Ytmadkfahkbdibaa

set_option linter.unusedVariables false
set_option linter.unusedSimpArgs false
namespace Go.Proofs.Ytmadkfahkbdibaa
open Go.ChangeShapes Go.WideShapes Go.ChangeAt Go.RowKit Go.Deep

theorem spot_none {w : World} {a : Addr} {v : Value} (h : w.cell? a = some v) : a.spot = none := by
  unfold World.cell? at h
  split at h
  · split at h
    · cases h
    · rename_i hn
      cases hs : a.spot with
      | none => rfl
      | some z => simp [hs] at hn
  · cases h
theorem u8_of {n : Int} (h : (Lit.int .u8 n).wf = true) : ((UInt8.ofNat n.toNat).toNat : Int) = n := by
  have : 0 ≤ n ∧ n ≤ 255 := by simpa [Lit.wf, IntKind.min, IntKind.max, IntKind.signed, IntKind.bits] using h
  rw [UInt8.toNat_ofNat']; omega

section
variable {H : Type} {enc : TypeId × Value → H} {W : World} {base : Nat} {held : Bool}
set_option maxRecDepth 10000 in
theorem open_bytes_cell {fuel : Nat} {cs : List Value} {x : DataW H × List MemPlace} (h : DataW.trod enc Try.prog W base (fun _ => true) held fuel 52 cs = some x) : ∃ v l, cs = [v] ∧ BS W v l := by
  rcases open_ints Try.underlying52 Try.underlying5 (by kernel_rfl) h with ⟨rfl, _⟩ | ⟨a, len, cap, zs, rfl, hb, hl, hm, hz, hx, hc, hw⟩
  · exact ⟨_, [], rfl, BS.nil W⟩
  · simp only [ite_true] at hz
    have hll : ((zs.take len).map fun z => UInt8.ofNat z.toNat).length = len := by simp; omega
    refine ⟨_, (zs.take len).map (fun z => UInt8.ofNat z.toNat), rfl, some a, cap, by rw [hll], by omega, hm, fun hne => ?_⟩
    have hpos : 0 < len := by
      rcases Nat.eq_zero_or_pos len with h0 | h0
      · subst h0; simp at hne
      · exact h0
    have h0 := hc 0 (by omega)
    have hs := spot_none h0
    have hblk := cell_blockW h0
    obtain ⟨b, o, sp⟩ := a
    have hs' : sp = none := by simpa [Addr.add] using hs
    subst hs'
    refine ⟨b, o, rfl, by simpa [Addr.add] using hblk, fun i x hx => ?_⟩
    have hi : i < len := by have := (List.getElem?_eq_some_iff.1 hx).1; omega
    have hci := hc i (by omega)
    rw [Go.WideShapes.add_plain] at hci
    rw [hci]
    have hzi : zs[i]? = some (zs.getD i 0) := by rw [List.getD_eq_getElem?_getD, List.getElem?_eq_getElem (by omega)]; rfl
    rw [List.getElem?_map, List.getElem?_take_of_lt hi, hzi] at hx
    injection hx with hx
    rw [← hx, u8_of (hw _ (List.mem_of_getElem? hzi))]

set_option maxRecDepth 10000 in
theorem open_bytes {v : Value} {r : Reach} {b0 : Nat} {d : DataW H} {ps : List MemPlace} (hv : Value.okWide Try.prog W r b0 52 v)
    (h : DataW.Trod enc Try.prog W base (fun _ => true) held 52 v d ps) : ∃ l : List UInt8, BS W v l := by
  have hcs : v.cells = #[v] := by
    simp only [Value.okWide, Try.underlying52] at hv
    cases v <;> first | rfl | simp [Cell.okWide, Cell.ok] at hv
  obtain ⟨fuel, hf⟩ := h
  rw [hcs] at hf
  obtain ⟨u, l, hu, hb⟩ := open_bytes_cell hf
  injection hu with hu _
  subst hu
  exact ⟨l, hb⟩
end

end Go.Proofs.Ytmadkfahkbdibaa

set_option linter.unusedVariables false
set_option linter.unusedSimpArgs false
namespace Go.Proofs.Ytmadkfahkbdibaa.ticketReads
open Go.ChangeShapes Go.WideShapes Go.ChangeAt Go.RowKit Go.Deep

attribute [local go_sem ↓] Tk_execLoad Tk_execStore
attribute [local go_sem] Tk_load Tk_store loL_drew okL_drew there_sc World.there_drew
theorem some_ofR {w : World} {base e n m k c : Nat} {p : Option Addr} {xs : List Value} (h : w.ownsRow base e n (.slice p k c) m xs) : 0 < m → ∃ b, p = some ⟨b, 0, none⟩ := fun h0 => by
  obtain ⟨b, c', hv⟩ := own_someT h h0
  injection hv with h1 h2 h3
  exact ⟨b, h1⟩
theorem zTk_wf : Tkt.zTk.wf := ⟨⟨by decide, by decide⟩, by decide, ⟨by decide, by decide⟩, fun x h => (by cases h), fun x h => (by cases h), ⟨by decide, by decide⟩, ⟨by decide, by decide⟩, ⟨by decide, by decide⟩, ⟨by decide, by decide⟩, ⟨by decide, by decide⟩, fun x h => (by cases h)⟩
theorem TS.nilT (w : World) : TS w Tkt.zTk ⟨none, 0, 0⟩ ⟨none, 0, 0⟩ ⟨none, 0, 0⟩ := TS.of_own (base := w.heap.size) zTk_wf (World.ownsRow_nil _ _ _ _) (World.ownsRow_nil _ _ _ _) (World.ownsRow_nil _ _ _ _)
theorem ofT_facts (b : List UInt8) : (Tkt.ofT b).wf ∧ (Tkt.okT b = false → Tkt.ofT b = Tkt.zTk) ∧ (Tkt.okT b = true → Tkt.mayB (Tkt.ofT b) = true ∧ Tkt.encT (Tkt.ofT b) = b ∧ 0 < b.length) := by
  cases h : Tkt.okT b
  · have e : Tkt.ofT b = Tkt.zTk := by unfold Tkt.ofT; rw [h]; exact if_neg (by simp)
    rw [e]
    exact ⟨zTk_wf, fun _ => rfl, fun h => by cases h⟩
  · have e : Tkt.ofT b = Tkt.gT (some b) := by unfold Tkt.ofT; rw [h]; exact if_pos rfl
    rw [e]
    refine ⟨Tkt.gT_wf _, (fun h => by cases h), fun _ => ⟨?_, Tkt.enc_of h, ?_⟩⟩
    · unfold Tkt.okT at h
      simp only [Bool.and_eq_true] at h
      exact h.2
    · rw [← Tkt.enc_of h]
      unfold Tkt.encT Tkt.encH
      simp only [List.length_append, Wire.be_length]
      omega
attribute [local irreducible] Tkt.encT Tkt.okT Tkt.ofT
/-- two tickets in boxes, of the call's own -/
structure RdAt (w W : World) (gx gw : Nat) (T : Tk) (c x h c' x' h' : Sl) : Prop where
  b : Below w.heap.size w W
  r1 : W.heap[gx]? = some (.cells #[.int .u64 T.num, .string T.loc, .int .i64 T.iss, .slice c.p c.n c.c, .slice x.p x.n x.c, .int .u64 T.prev, .int .u64 T.org, .int .u64 T.fst, .int .i64 T.vou, .int .i64 T.posts, .slice h.p h.n h.c] 27 (0, 0))
  r2 : W.heap[gw]? = some (.cells #[.int .u64 T.num, .string T.loc, .int .i64 T.iss, .slice c'.p c'.n c'.c, .slice x'.p x'.n x'.c, .int .u64 T.prev, .int .u64 T.org, .int .u64 T.fst, .int .i64 T.vou, .int .i64 T.posts, .slice h'.p h'.n h'.c] 27 (0, 0))
  o1 : W.ownsRow w.heap.size 44 6 (.slice c.p c.n c.c) T.cs.length (encL Cpn.cells T.cs)
  o2 : W.ownsRow w.heap.size 48 2 (.slice x.p x.n x.c) T.ts.length (encL Txx.cells T.ts)
  o3 : W.ownsRow w.heap.size 46 4 (.slice h.p h.n h.c) T.hs.length (encL Evt.cells T.hs)
  o4 : W.ownsRow w.heap.size 44 6 (.slice c'.p c'.n c'.c) T.cs.length (encL Cpn.cells T.cs)
  o5 : W.ownsRow w.heap.size 48 2 (.slice x'.p x'.n x'.c) T.ts.length (encL Txx.cells T.ts)
  o6 : W.ownsRow w.heap.size 46 4 (.slice h'.p h'.n h'.c) T.hs.length (encL Evt.cells T.hs)
theorem RdAt.byte {w W : World} {gx gw : Nat} {T : Tk} {c x h c' x' h' : Sl} (k : RdAt w W gx gw T c x h c' x' h') {g : Nat} {cs : Array Value} (hg : W.heap[g]? = some (.cells cs 5 (0, 0))) (hle : w.heap.size ≤ g) (j : Nat) (u : Value) : RdAt w (W.setCell ⟨g, j, none⟩ u) gx gw T c x h c' x' h' :=
  have ho := (Only.refl g W).setCell j u
  ⟨k.b.setCell (p := ⟨g, j, none⟩) hle u, (heap_setCell_other W ⟨g, j, none⟩ gx u (row_neT k.r1 hg (by decide))).trans k.r1, (heap_setCell_other W ⟨g, j, none⟩ gw u (row_neT k.r2 hg (by decide))).trans k.r2,
    recs_only k.o1 (own_neT k.o1 hg (by decide)) ho, recs_only k.o2 (own_neT k.o2 hg (by decide)) ho, recs_only k.o3 (own_neT k.o3 hg (by decide)) ho, recs_only k.o4 (own_neT k.o4 hg (by decide)) ho, recs_only k.o5 (own_neT k.o5 hg (by decide)) ho, recs_only k.o6 (own_neT k.o6 hg (by decide)) ho⟩
set_option maxRecDepth 8000 in
set_option maxHeartbeats 8000000 in
theorem walk (v : Value) (b : List UInt8) (w : World) (hv : BS w v b) : Calls Try.prog 7 #[v] w fun e w' => e = .returned (.bool true) ∧ Below w.heap.size w w' := by
  have HV := Lib.hid hv
  obtain ⟨p, cap, rfl, g1, g2, -⟩ := hv
  unfold maxLen at g2
  obtain ⟨m, hm⟩ : ∃ m, b.length = m := ⟨_, rfl⟩
  rw [hm] at HV g1 ⊢
  have HM := Lib.hid hm
  clear hm
  have HKN := Lib.hid (fun W => known13_any W)
  by_cases h3 : 3000 < m
  · go_enter Try.func7, Try.ntmps7
    go_wp2_with fail
    refine (HKN.out _).mono ?_
    rintro e w1 ⟨rfl, hb1⟩
    go_wp2
    go_ret
    exact ⟨rfl, hb1⟩
  · have HM3 : Hid (m ≤ 3000) := Lib.hid (by omega)
    have HOF := Lib.hid (fun W v h => tof_any v b (by have h1 := HM.out; have h2 := HM3.out; omega) W h)
    have HRF := Lib.hid (fun W v h => rof_any v b (by have h1 := HM.out; have h2 := HM3.out; omega) W h)
    have HTT := Lib.hid (ofT_facts b)
    obtain ⟨T, hT⟩ : ∃ T, Tkt.ofT b = T := ⟨_, rfl⟩
    rw [hT] at HOF HRF HTT
    clear hT
    obtain ⟨ok, hok⟩ : ∃ o, Tkt.okT b = o := ⟨_, rfl⟩
    rw [hok] at HOF HRF HTT
    clear hok
    obtain ⟨ev, hev⟩ : ∃ z : Int, (if ok = true then 0 else 4) = z := ⟨_, rfl⟩
    rw [hev] at HOF
    have HEV := Lib.hid hev
    clear hev
    go_enter Try.func7, Try.ntmps7
    go_wp2_with (at_builtin; refine wpList_append_bytes rfl _ _ rfl w.heap.size _ 0 [] rfl (World.ownsRow_nil _ _ _ _) _ b rfl HV.out (by have h1 := HM.out; have h2 := HM3.out; omega) (Nat.le_refl _) ?_)
    intro v1 w1 hown hg1 hn1 hat1
    rw [HM.out] at hown
    have HB : Hid (Below w.heap.size w w1) := Lib.hid ((Below.refl _ _).grown hg1 (Nat.le_refl _) (fun q hq => by cases hq))
    have hown' : w1.ownsRow w.heap.size 5 1 v1 m (bytesV b) := by simpa using hown
    have HOW := Lib.hid hown'
    obtain ⟨q1, c1, rfl⟩ := own_form hown'
    clear hown hown' hg1 hn1 hat1
    go_wp2_with fail
    refine (HOF.out w1 _ (BS.of_own HOW.out)).mono ?_
    rintro e wn ⟨⟨a1, k1, b1⟩, ⟨a2, k2, b2⟩, ⟨a3, k3, b3⟩, rfl, o1, o2, o3, hbn⟩
    have O1 : Hid (wn.ownsRow w.heap.size 44 6 (.slice a1 k1 b1) T.cs.length (encL Cpn.cells T.cs)) := Lib.hid (own_monoT o1 HB.out.size)
    have O2 : Hid (wn.ownsRow w.heap.size 48 2 (.slice a2 k2 b2) T.ts.length (encL Txx.cells T.ts)) := Lib.hid (own_monoT o2 HB.out.size)
    have O3 : Hid (wn.ownsRow w.heap.size 46 4 (.slice a3 k3 b3) T.hs.length (encL Evt.cells T.hs)) := Lib.hid (own_monoT o3 HB.out.size)
    have HB := Lib.hid (HB.out.trans (hbn.mono HB.out.size))
    have HOW := Lib.hid (recs_below HOW.out hbn)
    clear o1 o2 o3 hbn
    have th := there_newT (w := wn) (zs := [.int .u64 0, .string ⟨#[]⟩, .int .i64 0, .slice none 0 0, .slice none 0 0, .int .u64 0, .int .u64 0, .int .u64 0, .int .i64 0, .int .i64 0, .slice none 0 0]) (e := 27) (n := 11) rfl
    have h1n : ([.int .u64 T.num, .string T.loc, .int .i64 T.iss, .slice a1 k1 b1, .slice a2 k2 b2, .int .u64 T.prev, .int .u64 T.org, .int .u64 T.fst, .int .i64 T.vou, .int .i64 T.posts, .slice a3 k3 b3] : List Value).length = 11 := rfl
    have h1c : ([.int .u64 T.num, .string T.loc, .int .i64 T.iss, .slice a1 k1 b1, .slice a2 k2 b2, .int .u64 T.prev, .int .u64 T.org, .int .u64 T.fst, .int .i64 T.vou, .int .i64 T.posts, .slice a3 k3 b3] : List Value).all (·.oneCell') = true := rfl
    go_upto_region 5 with fail
    have HP := Lib.hid (putTk (W := wn) (cs := [.int .u64 T.num, .string T.loc, .int .i64 T.iss, .slice a1 k1 b1, .slice a2 k2 b2, .int .u64 T.prev, .int .u64 T.org, .int .u64 T.fst, .int .i64 T.vou, .int .i64 T.posts, .slice a3 k3 b3]) rfl)
    have O1 := Lib.hid (recs_below O1.out HP.out.2)
    have O2 := Lib.hid (recs_below O2.out HP.out.2)
    have O3 := Lib.hid (recs_below O3.out HP.out.2)
    have HOW := Lib.hid (recs_below HOW.out HP.out.2)
    have HB := Lib.hid (HB.out.trans (HP.out.2.mono HB.out.size))
    have HRg6 := Lib.hid HP.out.1
    clear HP th h1n h1c
    generalize (wn.alloc (.cells #[.int .u64 0, .string ⟨#[]⟩, .int .i64 0, .slice none 0 0, .slice none 0 0, .int .u64 0, .int .u64 0, .int .u64 0, .int .i64 0, .int .i64 0, .slice none 0 0] 27 (0, 0))).setCells wn.heap.size 0 [.int .u64 T.num, .string T.loc, .int .i64 T.iss, .slice a1 k1 b1, .slice a2 k2 b2, .int .u64 T.prev, .int .u64 T.org, .int .u64 T.fst, .int .i64 T.vou, .int .i64 T.posts, .slice a3 k3 b3] = w5 at *
    generalize wn.heap.size = g6 at *
    go_wp2_with fail
    refine (HRF.out w5 _ (HV.out.below HB.out)).mono ?_
    rintro e wn ⟨⟨q2, n2, z2⟩, ⟨q3, n3, z3⟩, ⟨q4, n4, z4⟩, rfl, o1, o2, o3, hbn⟩
    have P1 : Hid (wn.ownsRow w.heap.size 44 6 (.slice q2 n2 z2) T.cs.length (encL Cpn.cells T.cs)) := Lib.hid (own_monoT o1 HB.out.size)
    have P2 : Hid (wn.ownsRow w.heap.size 48 2 (.slice q3 n3 z3) T.ts.length (encL Txx.cells T.ts)) := Lib.hid (own_monoT o2 HB.out.size)
    have P3 : Hid (wn.ownsRow w.heap.size 46 4 (.slice q4 n4 z4) T.hs.length (encL Evt.cells T.hs)) := Lib.hid (own_monoT o3 HB.out.size)
    have HB := Lib.hid (HB.out.trans (hbn.mono HB.out.size))
    have HOW := Lib.hid (recs_below HOW.out hbn)
    have O1 := Lib.hid (recs_below O1.out hbn)
    have O2 := Lib.hid (recs_below O2.out hbn)
    have O3 := Lib.hid (recs_below O3.out hbn)
    have HRg6 := Lib.hid ((hbn.block _ (block_lt HRg6.out)).trans HRg6.out)
    clear o1 o2 o3 hbn
    have th := there_newT (w := wn) (zs := [.int .u64 0, .string ⟨#[]⟩, .int .i64 0, .slice none 0 0, .slice none 0 0, .int .u64 0, .int .u64 0, .int .u64 0, .int .i64 0, .int .i64 0, .slice none 0 0]) (e := 27) (n := 11) rfl
    have h1n : ([.int .u64 T.num, .string T.loc, .int .i64 T.iss, .slice q2 n2 z2, .slice q3 n3 z3, .int .u64 T.prev, .int .u64 T.org, .int .u64 T.fst, .int .i64 T.vou, .int .i64 T.posts, .slice q4 n4 z4] : List Value).length = 11 := rfl
    have h1c : ([.int .u64 T.num, .string T.loc, .int .i64 T.iss, .slice q2 n2 z2, .slice q3 n3 z3, .int .u64 T.prev, .int .u64 T.org, .int .u64 T.fst, .int .i64 T.vou, .int .i64 T.posts, .slice q4 n4 z4] : List Value).all (·.oneCell') = true := rfl
    go_upto_region 6 with fail
    have HP := Lib.hid (putTk (W := wn) (cs := [.int .u64 T.num, .string T.loc, .int .i64 T.iss, .slice q2 n2 z2, .slice q3 n3 z3, .int .u64 T.prev, .int .u64 T.org, .int .u64 T.fst, .int .i64 T.vou, .int .i64 T.posts, .slice q4 n4 z4]) rfl)
    have HRg6 := Lib.hid ((HP.out.2.block _ (block_lt HRg6.out)).trans HRg6.out)
    have O1 := Lib.hid (recs_below O1.out HP.out.2)
    have O2 := Lib.hid (recs_below O2.out HP.out.2)
    have O3 := Lib.hid (recs_below O3.out HP.out.2)
    have P1 := Lib.hid (recs_below P1.out HP.out.2)
    have P2 := Lib.hid (recs_below P2.out HP.out.2)
    have P3 := Lib.hid (recs_below P3.out HP.out.2)
    have HOW := Lib.hid (recs_below HOW.out HP.out.2)
    have HB := Lib.hid (HB.out.trans (HP.out.2.mono HB.out.size))
    have HRg7 := Lib.hid HP.out.1
    clear HP th h1n h1c
    generalize (wn.alloc (.cells #[.int .u64 0, .string ⟨#[]⟩, .int .i64 0, .slice none 0 0, .slice none 0 0, .int .u64 0, .int .u64 0, .int .u64 0, .int .i64 0, .int .i64 0, .slice none 0 0] 27 (0, 0))).setCells wn.heap.size 0 [.int .u64 T.num, .string T.loc, .int .i64 T.iss, .slice q2 n2 z2, .slice q3 n3 z3, .int .u64 T.prev, .int .u64 T.org, .int .u64 T.fst, .int .i64 T.vou, .int .i64 T.posts, .slice q4 n4 z4] = w7 at *
    generalize wn.heap.size = g7 at *
    obtain ⟨S, hS⟩ : ∃ S : ByteArray, ⟨b.toArray⟩ = S := ⟨_, rfl⟩
    have HS := Lib.hid hS
    clear hS
    have HSV : Hid (∀ W v, BS W v b → (convert 52 9 v).run Try.prog W = .ok (.string S) W) := Lib.hid (fun W v hv => by rw [← HS.out]; exact hv.to_string)
    have f1 := HSV.out _ _ (BS.of_own HOW.out)
    have f2 := HSV.out _ _ (HV.out.below HB.out)
    cases ok
    · obtain rfl : ev = 4 := by rw [← HEV.out]; rfl
      obtain rfl : T = Tkt.zTk := HTT.out.2.1 rfl
      have HTS := Lib.hid (TS.of_own (t := Tkt.zTk) (c := ⟨a1, k1, b1⟩) (x := ⟨a2, k2, b2⟩) (h := ⟨a3, k3, b3⟩) HTT.out.1 O1.out O2.out O3.out)
      obtain ⟨f3, f4⟩ := row_loT 11 HRg6.out rfl rfl
      go_wp2_with (first | (go_at_call 16; refine (rsame_any Tkt.zTk Tkt.zTk ⟨a1, k1, b1⟩ ⟨a2, k2, b2⟩ ⟨a3, k3, b3⟩ ⟨none, 0, 0⟩ ⟨none, 0, 0⟩ ⟨none, 0, 0⟩ _ HTS.out (TS.nilT _) true (by simp)).mono ?_; rintro e wn ⟨rfl, hbn⟩; have HB := Lib.hid (HB.out.trans (hbn.mono HB.out.size)); clear hbn) | (go_at_call 12; refine (HKN.out _).mono ?_; rintro e wk ⟨rfl, hbk⟩; have HBK := Lib.hid (HB.out.trans (hbk.mono HB.out.size)); clear hbk))
      go_ret
      exact ⟨rfl, HBK.out⟩
    · obtain rfl : ev = 0 := by rw [← HEV.out]; rfl
      obtain ⟨hmb, henc, hpos⟩ := HTT.out.2.2 rfl
      have HMB := Lib.hid hmb; have HENC := Lib.hid henc; have HPOS : Hid (0 < m) := Lib.hid (by have := HM.out; omega)
      clear hmb henc hpos
      go_wp2_with fail
      clear f1 f2
      have HA : Hid (RdAt w w7 g6 g7 T ⟨a1, k1, b1⟩ ⟨a2, k2, b2⟩ ⟨a3, k3, b3⟩ ⟨q2, n2, z2⟩ ⟨q3, n3, z3⟩ ⟨q4, n4, z4⟩) := Lib.hid ⟨HB.out, HRg6.out, HRg7.out, O1.out, O2.out, O3.out, P1.out, P2.out, P3.out⟩
      have HLZ := Lib.hid (some_ofR HOW.out)
      have HRO := Lib.hid (RowOf.of_own HOW.out)
      obtain ⟨cb, hcb⟩ := HLZ.out HPOS.out
      subst hcb
      clear HB HRg6 HRg7 O1 O2 O3 P1 P2 P3 HOW HLZ
      go_loopw [8] (fun i wz => ∃ j : Nat, j ≤ m ∧ i = .int .i64 j ∧ RdAt w wz g6 g7 T ⟨a1, k1, b1⟩ ⟨a2, k2, b2⟩ ⟨a3, k3, b3⟩ ⟨q2, n2, z2⟩ ⟨q3, n3, z3⟩ ⟨q4, n4, z4⟩ ∧ RowOf w.heap.size wz (some ⟨cb, 0, none⟩) 5 (m * 1)) (fun i _ => m - (intOf i).toNat)
      case atStart => exact ⟨0, Nat.zero_le _, rfl, HA.out, HRO.out⟩
      case round =>
        obtain ⟨j, hj, rfl, hA, hrz⟩ := hrel
        have HA := Lib.hid hA; have HRZ := Lib.hid hrz
        clear hA hrz
        have hnb := HM3.out
        by_cases hlt : j < m
        · obtain ⟨hbl, cs, hrow, hsz⟩ := HRZ.out cb rfl
          have kc : ∃ u, wr.cell? ⟨cb, j, none⟩ = some u := ⟨cs[j]'(by omega), (cell_of_row _ _ _ _ _ _ hrow).trans (Array.getElem?_eq_getElem _)⟩
          obtain ⟨u, ku⟩ := kc
          have kf := fun j => frozen_of_row wr cb j _ _ hrow
          have HBL := Lib.hid hbl; have HROW := Lib.hid hrow
          clear hrow hsz hbl
          go_wp2_with fail
          go_roundw
          case rel =>
            refine ⟨j + 1, by omega, by go_num, HA.out.byte HROW.out HBL.out _ _, ?_⟩
            have := HRZ.out.setCells cb j [.int .u8 0]
            exact this
          case measure => simp [intOf]; omega
        · obtain rfl : m = j := by omega
          clear hlt hnb hj
          have HB := Lib.hid HA.out.b; have HR := Lib.hid HA.out.r1; have HRg7 := Lib.hid HA.out.r2
          have HT5 := Lib.hid (TS.of_own (t := T) (c := ⟨a1, k1, b1⟩) (x := ⟨a2, k2, b2⟩) (h := ⟨a3, k3, b3⟩) HTT.out.1 HA.out.o1 HA.out.o2 HA.out.o3)
          have HT7 := Lib.hid (TS.of_own (t := T) (c := ⟨q2, n2, z2⟩) (x := ⟨q3, n3, z3⟩) (h := ⟨q4, n4, z4⟩) HTT.out.1 HA.out.o4 HA.out.o5 HA.out.o6)
          clear HA HRO HRZ
          go_upto_region 14 with fail
          refine wp_region_G (C := fun W => (loL 11 W g6 0 = [.int .u64 T.num, .string T.loc, .int .i64 T.iss, .slice a1 k1 b1, .slice a2 k2 b2, .int .u64 T.prev, .int .u64 T.org, .int .u64 T.fst, .int .i64 T.vou, .int .i64 T.posts, .slice a3 k3 b3] ∧ okL 11 W g6 0) ∧ (loL 11 W g7 0 = [.int .u64 T.num, .string T.loc, .int .i64 T.iss, .slice q2 n2 z2, .slice q3 n3 z3, .int .u64 T.prev, .int .u64 T.org, .int .u64 T.fst, .int .i64 T.vou, .int .i64 T.posts, .slice q4 n4 z4] ∧ okL 11 W g7 0) ∧ (convert 52 9 (.slice p m cap)).run Try.prog W = .ok (.string S) W) (s0 := 18) (by kernel_rfl) ?_
          have HB := Lib.hid (HB.out.trans ((Below.refl wr.heap.size wr).drew.mono HB.out.size))
          have HR := Lib.hid (row_drewT HR.out)
          have HRg7 := Lib.hid (row_drewT HRg7.out)
          have HT5 := Lib.hid (HT5.out.below (Below.refl _ _).drew)
          have HT7 := Lib.hid (HT7.out.below (Below.refl _ _).drew)
          generalize wr.drew = wd at *
          have hHeld := (show (loL 11 wd g6 0 = [.int .u64 T.num, .string T.loc, .int .i64 T.iss, .slice a1 k1 b1, .slice a2 k2 b2, .int .u64 T.prev, .int .u64 T.org, .int .u64 T.fst, .int .i64 T.vou, .int .i64 T.posts, .slice a3 k3 b3] ∧ okL 11 wd g6 0) ∧ (loL 11 wd g7 0 = [.int .u64 T.num, .string T.loc, .int .i64 T.iss, .slice q2 n2 z2, .slice q3 n3 z3, .int .u64 T.prev, .int .u64 T.org, .int .u64 T.fst, .int .i64 T.vou, .int .i64 T.posts, .slice q4 n4 z4] ∧ okL 11 wd g7 0) ∧ (convert 52 9 (.slice p m cap)).run Try.prog wd = .ok (.string S) wd from ⟨row_loT 11 HR.out rfl rfl, row_loT 11 HRg7.out rfl rfl, HSV.out _ _ (HV.out.below HB.out)⟩)
          refine wpAnyG_takeU (i := 0) (oi := { dst := some 51, op := Op.move (Operand.tmp 5), type := 32, pos := "law.go:67", after := #[], guard := none }) (v := ?_) rfl (by kernel_rfl) (by kernel_rfl) (by kernel_rfl) (by decide) (fun _ _ _ h => h) (Or.inl ⟨by rfl, ?_⟩) (.inl (by assumption)) ?_
          rotate_left
          · intro w hSw; go_simp; try with_reducible rfl
          try simp only [Act.put, List.setIfInBounds_toArray, List.set_cons_zero, List.set_cons_succ]
          refine wpAnyG_takeU (i := 1) (oi := { dst := some 52, op := Op.binOp BinOp.eql 32 (Operand.tmp 51) (Operand.const (Value.int IntKind.i64 0)) 32, type := 4, pos := "law.go:67", after := #[{ on := 0, ground := Ground.data }], guard := none }) (v := ?_) rfl (by kernel_rfl) (by kernel_rfl) (by kernel_rfl) (by decide) (fun _ _ _ h => h) (Or.inl ⟨by rfl, ?_⟩) (.inl (by assumption)) ?_
          rotate_left
          · intro w hSw; go_simp; try with_reducible rfl
          try simp only [Act.put, List.setIfInBounds_toArray, List.set_cons_zero, List.set_cons_succ]
          refine wpAnyG_takeU (i := 2) (oi := { dst := some 53, op := Op.move (Operand.tmp 52), type := 4, pos := "law.go:67", after := #[{ on := 1, ground := Ground.data }], guard := none }) (v := ?_) rfl (by kernel_rfl) (by kernel_rfl) (by kernel_rfl) (by decide) (fun _ _ _ h => h) (Or.inl ⟨by rfl, ?_⟩) (.inl (by assumption)) ?_
          rotate_left
          · intro w hSw; go_simp; try with_reducible rfl
          try simp only [Act.put, List.setIfInBounds_toArray, List.set_cons_zero, List.set_cons_succ]
          refine wpAnyG_takeM (i := 3) (oi := { dst := some 54, op := Op.load 27 (Operand.tmp 4), type := 27, pos := "law.go:67", after := #[{ on := 2, ground := Ground.guard }], guard := some (2, true) }) (v := ?_) (ms := [5, 6, 7, 8, 9, 10, 11, 12, 13, 14, 15, 16, 17, 18]) rfl (by kernel_rfl) (by kernel_rfl) (by kernel_rfl) (by kernel_rfl) (by kernel_rfl) (fun _ _ _ h => h) (Or.inl ⟨by rfl, ?_⟩) (by assumption) ?_
          rotate_left
          · intro w hSw; (try dsimp only at hSw); go_simp; try with_reducible rfl
          try simp only [Act.put, List.setIfInBounds_toArray, List.set_cons_zero, List.set_cons_succ]
          refine wpAnyG_takeM (i := 4) (oi := { dst := some 55, op := Op.load 27 (Operand.tmp 6), type := 27, pos := "law.go:67", after := #[{ on := 2, ground := Ground.guard }], guard := some (2, true) }) (v := ?_) (ms := [5, 6, 7, 8, 9, 10, 11, 12, 13, 14, 15, 16, 17, 18]) rfl (by kernel_rfl) (by kernel_rfl) (by kernel_rfl) (by kernel_rfl) (by kernel_rfl) (fun _ _ _ h => h) (Or.inl ⟨by rfl, ?_⟩) (by assumption) ?_
          rotate_left
          · intro w hSw; (try dsimp only at hSw); go_simp; try with_reducible rfl
          try simp only [Act.put, List.setIfInBounds_toArray, List.set_cons_zero, List.set_cons_succ]
          refine wpAnyG_one (i := 5) (o := { dst := some 56, op := Op.call { callee := Callee.value (Operand.func 16), args := #[Operand.tmp 54, Operand.tmp 55], argTypes := #[27, 27] }, type := 4, pos := "law.go:67", after := #[{ on := 3, ground := Ground.data }, { on := 4, ground := Ground.data }, { on := 2, ground := Ground.chain }, { on := 2, ground := Ground.guard }], guard := some (2, true) }) (by kernel_rfl) rfl (fun K hK => ?_)
          go_simp
          go_at_call 16
          refine (rsame_any T T ⟨a1, k1, b1⟩ ⟨a2, k2, b2⟩ ⟨a3, k3, b3⟩ ⟨q2, n2, z2⟩ ⟨q3, n3, z3⟩ ⟨q4, n4, z4⟩ _ HT5.out HT7.out true (by simp)).mono ?_
          rintro e wn ⟨rfl, hbn⟩
          have HB := Lib.hid (HB.out.trans (hbn.mono HB.out.size))
          have HR := Lib.hid ((hbn.block _ (block_lt HR.out)).trans HR.out)
          have HRg7 := Lib.hid ((hbn.block _ (block_lt HRg7.out)).trans HRg7.out)
          have HT5 := Lib.hid (HT5.out.below hbn)
          have HT7 := Lib.hid (HT7.out.below hbn)
          clear hbn
          have hHeld := (show (loL 11 wn g6 0 = [.int .u64 T.num, .string T.loc, .int .i64 T.iss, .slice a1 k1 b1, .slice a2 k2 b2, .int .u64 T.prev, .int .u64 T.org, .int .u64 T.fst, .int .i64 T.vou, .int .i64 T.posts, .slice a3 k3 b3] ∧ okL 11 wn g6 0) ∧ (loL 11 wn g7 0 = [.int .u64 T.num, .string T.loc, .int .i64 T.iss, .slice q2 n2 z2, .slice q3 n3 z3, .int .u64 T.prev, .int .u64 T.org, .int .u64 T.fst, .int .i64 T.vou, .int .i64 T.posts, .slice q4 n4 z4] ∧ okL 11 wn g7 0) ∧ (convert 52 9 (.slice p m cap)).run Try.prog wn = .ok (.string S) wn from ⟨row_loT 11 HR.out rfl rfl, row_loT 11 HRg7.out rfl rfl, HSV.out _ _ (HV.out.below HB.out)⟩)
          refine hK.out _ _ (.inl hHeld) ?_
          clear hK K
          try simp only [Act.put, List.setIfInBounds_toArray, List.set_cons_zero, List.set_cons_succ]
          refine wpAnyG_takeU (i := 6) (oi := { dst := some 57, op := Op.pick (Operand.tmp 53) (Operand.tmp 56) (Operand.const (Value.bool false)), type := 4, pos := "law.go:67", after := #[{ on := 2, ground := Ground.data }, { on := 5, ground := Ground.data }], guard := none }) (v := ?_) rfl (by kernel_rfl) (by kernel_rfl) (by kernel_rfl) (by decide) (fun _ _ _ h => h) (Or.inl ⟨by rfl, ?_⟩) (.inl (by assumption)) ?_
          rotate_left
          · intro w hSw; go_simp; try with_reducible rfl
          try simp only [Act.put, List.setIfInBounds_toArray, List.set_cons_zero, List.set_cons_succ]
          refine wpAnyG_takeU (i := 7) (oi := { dst := some 58, op := Op.move (Operand.tmp 57), type := 4, pos := "law.go:67", after := #[{ on := 6, ground := Ground.data }, { on := 5, ground := Ground.chain }], guard := none }) (v := ?_) rfl (by kernel_rfl) (by kernel_rfl) (by kernel_rfl) (by decide) (fun _ _ _ h => h) (Or.inl ⟨by rfl, ?_⟩) (.inl (by assumption)) ?_
          rotate_left
          · intro w hSw; go_simp; try with_reducible rfl
          try simp only [Act.put, List.setIfInBounds_toArray, List.set_cons_zero, List.set_cons_succ]
          refine wpAnyG_takeM (i := 8) (oi := { dst := some 59, op := Op.load 27 (Operand.tmp 6), type := 27, pos := "law.go:67", after := #[{ on := 7, ground := Ground.guard }], guard := some (7, true) }) (v := ?_) (ms := [9, 10, 13, 14, 15, 16, 17, 18]) rfl (by kernel_rfl) (by kernel_rfl) (by kernel_rfl) (by kernel_rfl) (by kernel_rfl) (fun _ _ _ h => h) (Or.inl ⟨by rfl, ?_⟩) (by assumption) ?_
          rotate_left
          · intro w hSw; (try dsimp only at hSw); go_simp; try with_reducible rfl
          try simp only [Act.put, List.setIfInBounds_toArray, List.set_cons_zero, List.set_cons_succ]
          refine wpAnyG_takeU (i := 11) (oi := { dst := some 62, op := Op.move (Operand.tmp 0), type := 52, pos := "law.go:67", after := #[{ on := 7, ground := Ground.guard }], guard := some (7, true) }) (v := ?_) rfl (by kernel_rfl) (by kernel_rfl) (by kernel_rfl) (by decide) (fun _ _ _ h => h) (Or.inl ⟨by rfl, ?_⟩) (.inl (by assumption)) ?_
          rotate_left
          · intro w hSw; go_simp; try with_reducible rfl
          try simp only [Act.put, List.setIfInBounds_toArray, List.set_cons_zero, List.set_cons_succ]
          refine wpAnyG_takeM (i := 12) (oi := { dst := some 63, op := Op.convert 52 9 (Operand.tmp 62), type := 9, pos := "law.go:67", after := #[{ on := 11, ground := Ground.data }, { on := 7, ground := Ground.guard }], guard := some (7, true) }) (v := ?_) (ms := [13, 14, 15, 16, 17, 18]) rfl (by kernel_rfl) (by kernel_rfl) (by kernel_rfl) (by kernel_rfl) (by kernel_rfl) (fun _ _ _ h => h) (Or.inl ⟨by rfl, ?_⟩) (by assumption) ?_
          rotate_left
          · intro w hSw; (try dsimp only at hSw); go_simp; try with_reducible rfl
          try simp only [Act.put, List.setIfInBounds_toArray, List.set_cons_zero, List.set_cons_succ]
          refine wpAnyG_one (i := 9) (o := { dst := some 60, op := Op.call { callee := Callee.value (Operand.func 23), args := #[Operand.tmp 59], argTypes := #[27] }, type := 52, pos := "law.go:67", after := #[{ on := 8, ground := Ground.data }, { on := 7, ground := Ground.chain }, { on := 7, ground := Ground.guard }], guard := some (7, true) }) (by kernel_rfl) rfl (fun K hK => ?_)
          go_simp
          go_at_call 23
          refine (rbytes13_any T ⟨q2, n2, z2⟩ ⟨q3, n3, z3⟩ ⟨q4, n4, z4⟩ _ HT7.out HMB.out).mono ?_
          rintro e wn ⟨v2, rfl, ho2, hbn⟩
          rw [HENC.out] at ho2
          have HO2 := Lib.hid ho2
          clear ho2
          have HB := Lib.hid (HB.out.trans (hbn.mono HB.out.size))
          have HR := Lib.hid ((hbn.block _ (block_lt HR.out)).trans HR.out)
          have HRg7 := Lib.hid ((hbn.block _ (block_lt HRg7.out)).trans HRg7.out)
          have HT5 := Lib.hid (HT5.out.below hbn)
          have HT7 := Lib.hid (HT7.out.below hbn)
          clear hbn
          have hHeld := (show (loL 11 wn g6 0 = [.int .u64 T.num, .string T.loc, .int .i64 T.iss, .slice a1 k1 b1, .slice a2 k2 b2, .int .u64 T.prev, .int .u64 T.org, .int .u64 T.fst, .int .i64 T.vou, .int .i64 T.posts, .slice a3 k3 b3] ∧ okL 11 wn g6 0) ∧ (loL 11 wn g7 0 = [.int .u64 T.num, .string T.loc, .int .i64 T.iss, .slice q2 n2 z2, .slice q3 n3 z3, .int .u64 T.prev, .int .u64 T.org, .int .u64 T.fst, .int .i64 T.vou, .int .i64 T.posts, .slice q4 n4 z4] ∧ okL 11 wn g7 0) ∧ (convert 52 9 (.slice p m cap)).run Try.prog wn = .ok (.string S) wn from ⟨row_loT 11 HR.out rfl rfl, row_loT 11 HRg7.out rfl rfl, HSV.out _ _ (HV.out.below HB.out)⟩)
          refine hK.out _ _ (.inl hHeld) ?_
          clear hK K
          try simp only [Act.put, List.setIfInBounds_toArray, List.set_cons_zero, List.set_cons_succ]
          refine wpAnyG_one (i := 10) (o := { dst := some 61, op := Op.convert 52 9 (Operand.tmp 60), type := 9, pos := "law.go:67", after := #[{ on := 9, ground := Ground.data }, { on := 7, ground := Ground.guard }], guard := some (7, true) }) (by kernel_rfl) rfl (fun K hK => ?_)
          have hcv := HSV.out _ _ (BS.of_own HO2.out)
          go_simp
          refine hK.out _ _ (.inl hHeld) ?_
          clear hK K
          try simp only [Act.put, List.setIfInBounds_toArray, List.set_cons_zero, List.set_cons_succ]
          clear hcv
          refine wpAnyG_takeU (i := 13) (oi := { dst := some 64, op := Op.binOp BinOp.eql 9 (Operand.tmp 61) (Operand.tmp 63) 9, type := 4, pos := "law.go:67", after := #[{ on := 10, ground := Ground.data }, { on := 12, ground := Ground.data }, { on := 7, ground := Ground.guard }], guard := some (7, true) }) (v := ?_) rfl (by kernel_rfl) (by kernel_rfl) (by kernel_rfl) (by decide) (fun _ _ _ h => h) (Or.inl ⟨by rfl, ?_⟩) (.inl (by assumption)) ?_
          rotate_left
          · intro w hSw; go_simp; try with_reducible rfl
          try simp only [Act.put, List.setIfInBounds_toArray, List.set_cons_zero, List.set_cons_succ]
          refine wpAnyG_takeU (i := 14) (oi := { dst := some 65, op := Op.pick (Operand.tmp 58) (Operand.tmp 64) (Operand.const (Value.bool false)), type := 4, pos := "law.go:67", after := #[{ on := 7, ground := Ground.data }, { on := 13, ground := Ground.data }], guard := none }) (v := ?_) rfl (by kernel_rfl) (by kernel_rfl) (by kernel_rfl) (by decide) (fun _ _ _ h => h) (Or.inl ⟨by rfl, ?_⟩) (.inl (by assumption)) ?_
          rotate_left
          · intro w hSw; go_simp; try with_reducible rfl
          try simp only [Act.put, List.setIfInBounds_toArray, List.set_cons_zero, List.set_cons_succ]
          refine wpAnyG_takeU (i := 15) (oi := { dst := some 66, op := Op.move (Operand.tmp 65), type := 4, pos := "law.go:67", after := #[{ on := 14, ground := Ground.data }, { on := 9, ground := Ground.chain }], guard := none }) (v := ?_) rfl (by kernel_rfl) (by kernel_rfl) (by kernel_rfl) (by decide) (fun _ _ _ h => h) (Or.inl ⟨by rfl, ?_⟩) (.inl (by assumption)) ?_
          rotate_left
          · intro w hSw; go_simp; try with_reducible rfl
          try simp only [Act.put, List.setIfInBounds_toArray, List.set_cons_zero, List.set_cons_succ]
          refine wpAnyG_one (i := 16) (o := { dst := some 67, op := Op.call { callee := Callee.value (Operand.func 12), args := #[], argTypes := #[] }, type := 4, pos := "law.go:67", after := #[{ on := 15, ground := Ground.chain }, { on := 15, ground := Ground.guard }], guard := some (15, true) }) (by kernel_rfl) rfl (fun K hK => ?_)
          go_simp
          go_at_call 12
          refine (HKN.out _).mono ?_
          rintro e wn ⟨rfl, hbn⟩
          have HB := Lib.hid (HB.out.trans (hbn.mono HB.out.size))
          have HR := Lib.hid ((hbn.block _ (block_lt HR.out)).trans HR.out)
          have HRg7 := Lib.hid ((hbn.block _ (block_lt HRg7.out)).trans HRg7.out)
          have HT5 := Lib.hid (HT5.out.below hbn)
          have HT7 := Lib.hid (HT7.out.below hbn)
          clear hbn
          have hHeld := (show (loL 11 wn g6 0 = [.int .u64 T.num, .string T.loc, .int .i64 T.iss, .slice a1 k1 b1, .slice a2 k2 b2, .int .u64 T.prev, .int .u64 T.org, .int .u64 T.fst, .int .i64 T.vou, .int .i64 T.posts, .slice a3 k3 b3] ∧ okL 11 wn g6 0) ∧ (loL 11 wn g7 0 = [.int .u64 T.num, .string T.loc, .int .i64 T.iss, .slice q2 n2 z2, .slice q3 n3 z3, .int .u64 T.prev, .int .u64 T.org, .int .u64 T.fst, .int .i64 T.vou, .int .i64 T.posts, .slice q4 n4 z4] ∧ okL 11 wn g7 0) ∧ (convert 52 9 (.slice p m cap)).run Try.prog wn = .ok (.string S) wn from ⟨row_loT 11 HR.out rfl rfl, row_loT 11 HRg7.out rfl rfl, HSV.out _ _ (HV.out.below HB.out)⟩)
          refine hK.out _ _ (.inl hHeld) ?_
          clear hK K
          try simp only [Act.put, List.setIfInBounds_toArray, List.set_cons_zero, List.set_cons_succ]
          refine wpAnyG_takeU (i := 17) (oi := { dst := some 68, op := Op.pick (Operand.tmp 66) (Operand.tmp 67) (Operand.const (Value.bool false)), type := 4, pos := "law.go:67", after := #[{ on := 15, ground := Ground.data }, { on := 16, ground := Ground.data }], guard := none }) (v := ?_) rfl (by kernel_rfl) (by kernel_rfl) (by kernel_rfl) (by decide) (fun _ _ _ h => h) (Or.inl ⟨by rfl, ?_⟩) (.inl (by assumption)) ?_
          rotate_left
          · intro w hSw; go_simp; try with_reducible rfl
          try simp only [Act.put, List.setIfInBounds_toArray, List.set_cons_zero, List.set_cons_succ]
          refine wpAnyG_one (i := 18) (o := { dst := some 2, op := Op.assign (Operand.tmp 68), type := 4, pos := "law.go:67", after := #[{ on := 17, ground := Ground.data }, { on := 16, ground := Ground.chain }, { on := 0, ground := Ground.phase }, { on := 1, ground := Ground.phase }, { on := 2, ground := Ground.phase }, { on := 3, ground := Ground.phase }, { on := 4, ground := Ground.phase }, { on := 5, ground := Ground.phase }, { on := 6, ground := Ground.phase }, { on := 7, ground := Ground.phase }, { on := 8, ground := Ground.phase }, { on := 9, ground := Ground.phase }, { on := 10, ground := Ground.phase }, { on := 11, ground := Ground.phase }, { on := 12, ground := Ground.phase }, { on := 13, ground := Ground.phase }, { on := 14, ground := Ground.phase }, { on := 15, ground := Ground.phase }, { on := 16, ground := Ground.phase }, { on := 17, ground := Ground.phase }], guard := none }) (by kernel_rfl) rfl (fun K hK => ?_)
          go_simp
          refine hK.out _ _ (.inr rfl) ?_
          clear hK K
          try simp only [Act.put, List.setIfInBounds_toArray, List.set_cons_zero, List.set_cons_succ]
          refine wpAnyG_done (by kernel_rfl) ?_ _
          clear hHeld
          go_wp2
          go_ret
          exact ⟨rfl, HB.out⟩
set_option maxRecDepth 100000 in
theorem lifted (os : Os) (started : os.Started) (H : Type) (enc : TypeId × Value → H) :
    ReturnsInHanded {} Try.checked os 7 .any (Rows.ticketReadsSpec.pre6 enc Try.prog Try.f7 Rows.ticketReadsRow.domain false) (Rows.ticketReadsSpec.post enc Try.prog Try.f7 false true false false) := by
  refine returnsInHanded_of_change (C := Try.checked) own started (by kernel_rfl) Try.func7
    (ChangeSpec.witness6 (enc := enc) (C := Try.checked) false ⟨#[], #[.slice none 0 0], []⟩ 8 (by kernel_rfl) (by kernel_rfl) (by kernel_rfl) (by kernel_rfl)) ?_
  intro W base args ds gs before hval0 hW hcnd _
  have hval : ∀ (j : Nat) t v, Try.f7.params[j]? = some t → args[j]? = some v → Value.okWide Try.prog W .any base t v := hval0
  have hW' := hW
  obtain ⟨p, q, hA0, hV, rfl, hfz, hnd⟩ := hW
  have hA : DataW.TrodAll enc Try.prog W 0 (fun _ => true) true Try.f7.params.toList args.toList ds p := hA0
  rw [Try.params7] at hA hval
  obtain ⟨v0, vs0, d0, ds0, p0, q0, hargs, rfl, rfl, h0, r0⟩ := trodAll_cons hA
  obtain ⟨rfl, rfl, rfl⟩ := trodAll_nil r0
  obtain rfl : args = #[v0] := by cases args; simp_all
  obtain ⟨b, hb⟩ := open_bytes (hval 0 _ v0 rfl rfl) h0
  clear hA0 hval0
  refine (walk v0 b W hb).mono fun e W' ⟨he, hg⟩ => ?_
  subst he
  exact ⟨_, rfl, post_law laidOut rfl hW' ⟨rfl, rfl, rfl⟩ (by kernel_rfl) hg Try.underlying4 rfl⟩

theorem proved : Rows.TicketReadsSaid :=
  OpenClaim.holds_of_wide 7 Try.f7 rfl rfl rfl rfl rfl rfl rfl ⟨rfl, rfl, rfl, rfl, rfl⟩ rfl rfl rfl rfl rfl (by kernel_rfl) Try.func7 (by kernel_rfl)
    (of_decide_eq_true (by kernel_rfl)) (by unfold Func.isWrapper; first | (rw [if_pos (by decide +kernel)]; kernel_rfl) | (rw [if_neg (by decide +kernel)]; exact ⟨rfl, rfl⟩))
    (fun os started H enc _ => lifted os started H enc)
#print axioms proved

end Go.Proofs.Ytmadkfahkbdibaa.ticketReads
