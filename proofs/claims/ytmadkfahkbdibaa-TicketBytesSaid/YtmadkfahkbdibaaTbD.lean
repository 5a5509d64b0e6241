/- Contracts: the reference's put and Bytes (13). The law TicketBytes. -/
import Derived.Test.YtmadkfahkbdibaaTbC
import Derived.Test.YtmadkfahkbdibaaTbB
import Derived.Lib.AppendStr
import Derived.Test.YtmadkfahkbdibaaTrJ
set_option linter.unusedVariables false
set_option linter.unusedSimpArgs false
namespace Go.Proofs.Ytmadkfahkbdibaa
open Go.RowKit

set_option maxRecDepth 4000 in
set_option maxHeartbeats 1000000 in
theorem put13n_any (base : Nat) (v : Value) (L : List UInt8) (N : Nat) (hN : N < 18446744073709551616) (s : Nat) (hs : s = 1 ∨ s = 2 ∨ s = 4 ∨ s = 8) (hfit : N < 256 ^ s) (hL : L.length ≤ 1000) (w : World) (hb : base ≤ w.heap.size) (ho : w.ownsRow base 5 1 v L.length (bytesV L)) :
    Calls Try.prog 72 #[v, .int .u64 (N : Int), .int .i64 (s : Int)] w fun e w' => ∃ u, e = .returned u ∧ w'.ownsRow base 5 1 u (L ++ Wire.be N s).length (bytesV (L ++ Wire.be N s)) ∧ w.grownBy w' v.ownBlock := by
  have HNU := Lib.hid (rNumber_any N hN (s : Int) w)
  have hp : pNum N (s : Int) = some (Wire.be N s) := by
    unfold pNum
    rw [if_pos ⟨by rcases hs with rfl | rfl | rfl | rfl <;> rfl, by rw [Int.toNat_natCast]; exact hfit⟩, Int.toNat_natCast]
  rw [hp] at HNU
  have HLB := Lib.hid (Wire.be_length N s)
  have HO := Lib.hid ho
  have HLL := Lib.hid hL
  obtain ⟨q, c, rfl⟩ := own_form ho
  clear hp hfit ho hL
  rw [show pGet (some (Wire.be N s)) = Wire.be N s from rfl, show (some (Wire.be N s)).isSome = true from rfl] at HNU
  generalize Wire.be N s = B at *
  generalize hLn : L.length = nl at *
  have HLN := Lib.hid hLn
  clear hLn
  go_enter Try.func72, Try.ntmps72
  go_wp2_with fail
  refine HNU.out.mono ?_
  rintro e w1 ⟨u, rfl, hown, hb1⟩
  have HOB := Lib.hid (BS.of_own hown)
  have HB := Lib.hid hb1
  have HO1 := Lib.hid (own_below HO.out hb1)
  obtain ⟨q1, c1, rfl⟩ := own_form hown
  clear hown hb1
  go_wp2_with (at_builtin; refine wpList_append_bytes rfl _ _ rfl base _ _ _ rfl HO1.out _ B rfl HOB.out ?c1 ?c2 ?_)
  case c1 => have := HLB.out; have := HLL.out; omega
  case c2 => have := HB.out.size; omega
  intro v2 w2 hown2 hg2 hn2 hat2
  have HG : Hid (w.grownBy w2 (Value.slice q nl c).ownBlock) := Lib.hid ⟨hg2.os.trans HB.out.os, hg2.tape.trans HB.out.tape, hg2.output.trans HB.out.output, Nat.le_trans HB.out.size hg2.size, fun k hk hne => (hg2.block k (Nat.lt_of_lt_of_le hk HB.out.size) hne).trans (HB.out.block k hk)⟩
  have HO2 : Hid (w2.ownsRow base 5 1 v2 (L ++ B).length (bytesV (L ++ B))) := Lib.hid (by rw [List.length_append, bytesV_append, HLN.out]; exact hown2)
  obtain ⟨q2, c2, rfl⟩ := own_form hown2
  clear hown2 hg2 hn2 hat2
  go_wp2
  go_ret
  exact ⟨_, rfl, by rw [List.length_append, HLN.out]; have := HO2.out; rwa [List.length_append, HLN.out] at this, HG.out⟩
theorem put13_any (base : Nat) (v : Value) (L : List UInt8) (z : Int) (s : Nat) (hs : s = 1 ∨ s = 2 ∨ s = 4 ∨ s = 8) {b : Nat} (hz : Tkt.fitN z b) (hb256 : b ≤ 256 ^ s) (hL : L.length ≤ 1000) (w : World) (hb : base ≤ w.heap.size) (ho : w.ownsRow base 5 1 v L.length (bytesV L)) :
    Calls Try.prog 72 #[v, .int .u64 z, .int .i64 (s : Int)] w fun e w' => ∃ u, e = .returned u ∧ w'.ownsRow base 5 1 u (L ++ Wire.be z.toNat s).length (bytesV (L ++ Wire.be z.toNat s)) ∧ w.grownBy w' v.ownBlock := by
  have hN : z.toNat < 256 ^ s := Nat.lt_of_lt_of_le hz.2 hb256
  have h := put13n_any base v L z.toNat (Nat.lt_of_lt_of_le hN (by rcases hs with rfl | rfl | rfl | rfl <;> decide)) s hs hN hL w hb ho
  rwa [Int.toNat_of_nonneg hz.1] at h
theorem wrap_fit {z : Int} {b : Nat} (h : Tkt.fitN z b) (hb : b ≤ 18446744073709551616) : IntKind.u64.wrap z = z := by
  rw [IntKind.wrap_u64]
  have h1 := h.1
  have h2 := h.2
  omega
theorem wrap_byte {z : Int} (h : Tkt.fitN z 256) : IntKind.u8.wrap z = z := by
  have h1 := h.1
  have h2 := h.2
  simp [IntKind.wrap, IntKind.signed, IntKind.bits]
  omega
theorem loc_size {t : Tk} (hm : Tkt.mayB t = true) : t.loc.size = 6 := by
  have h := Tkt.loc_six hm
  have h2 : t.loc.data.toList.length = t.loc.size := by
    show t.loc.data.toList.length = t.loc.data.size
    simp
  omega
/-- where the bytes are put together -/
structure YW (w W : World) (v : Value) (D : List UInt8) (K : Nat) : Prop where
  b : Below w.heap.size w W
  o : W.ownsRow w.heap.size 5 1 v D.length (bytesV D)
  l : D.length ≤ K
theorem YW.below {w W W' : World} {v : Value} {D : List UInt8} {K : Nat} (h : YW w W v D K) (hb : Below W.heap.size W W') : YW w W' v D K := ⟨h.b.trans (hb.mono h.b.size), own_below h.o hb, h.l⟩
theorem YW.app {w W W' : World} {v v' : Value} {D E : List UInt8} {K n : Nat} (h : YW w W v D K) (ho : W'.ownsRow w.heap.size 5 1 v' (D.length + n) (bytesV D ++ bytesV E)) (hg : W.grownBy W' v.ownBlock) (k : Nat) (hk : E.length = k) (hn : n = E.length := by rfl) : YW w W' v' (D ++ E) (K + k) := by
  refine ⟨h.b.grown hg h.b.size (fun b hb => (h.o.lt b hb).1), ?_, by rw [List.length_append]; have := h.l; omega⟩
  rw [List.length_append, bytesV_append, ← hn]
  exact ho
theorem YW.grown {w W W' : World} {v v' : Value} {D E : List UInt8} {K : Nat} (h : YW w W v D K) (ho : W'.ownsRow w.heap.size 5 1 v' (D ++ E).length (bytesV (D ++ E))) (hg : W.grownBy W' v.ownBlock) (k : Nat) (hk : E.length = k) : YW w W' v' (D ++ E) (K + k) :=
  ⟨h.b.grown hg h.b.size (fun b hb => (h.o.lt b hb).1), ho, by rw [List.length_append]; have := h.l; omega⟩
theorem YW.row {w W W' : World} {v : Value} {D : List UInt8} {K : Nat} (h : YW w W v D K) (hg : W.grownBy W' v.ownBlock) {g : Nat} {cs : Array Value} {t : TypeId} {fr : Nat × Nat} (hr : W.heap[g]? = some (.cells cs t fr)) (ht : 5 ≠ t) : W'.heap[g]? = some (.cells cs t fr) :=
  (hg.block g (block_lt hr) (own_ne h.o hr ht)).trans hr
theorem lits_len : ∀ zs : List Int, (zs.flatMap fun z => Wire.be z.toNat 1).length = zs.length
  | [] => rfl
  | z :: zs => by rw [List.flatMap_cons, List.length_append, lits_len zs, Wire.be_length, List.length_cons]; omega
theorem YW.as {w W : World} {v : Value} {D D' : List UInt8} {K K' : Nat} (h : YW w W v D K) (hd : D = D') (hk : K ≤ K') : YW w W v D' K' := by
  subst hd
  exact ⟨h.b, h.o, Nat.le_trans h.l hk⟩
theorem fit_len {n m : Nat} (h : n = m) (hm : m < 256) : Tkt.fitN (n : Int) 256 := ⟨by omega, by omega⟩
theorem tx_at {w W : World} {t : Tk} {c x h : Sl} (s : TS w t c x h) (hb : Below w.heap.size w W) {j : Nat} {y : Txx} (hy : t.ts[j]? = some y) {eb ef : Nat} (hp : x.p = some ⟨eb, ef, none⟩) : W.cell? ⟨eb, ef + j * 2, none⟩ = some (.int .i64 y.cd) ∧ W.cell? ⟨eb, ef + j * 2 + 1, none⟩ = some (.int .i64 y.am) := by
  obtain ⟨b, o, e, -, r⟩ := (s.below hb).ts.at hy
  rw [hp] at e
  injection e with e
  injection e with e1 e2
  subst e1 e2
  exact ⟨r 0 _ rfl, r 1 _ rfl⟩
theorem enc_end {w W : World} {v : Value} {t : Tk} {K : Nat} (h : YW w W v (((((Tkt.encH t ++ Wire.be t.cs.length 1 ++ t.cs.flatMap Tkt.encC) ++ Wire.be t.ts.length 1) ++ t.ts.flatMap Tkt.encX) ++ (Wire.be t.posts.toNat 1 ++ Wire.be t.hs.length 1)) ++ t.hs.flatMap Tkt.encE) K) : W.ownsRow w.heap.size 5 1 v (Tkt.encT t).length (bytesV (Tkt.encT t)) := by
  have e : (((((Tkt.encH t ++ Wire.be t.cs.length 1 ++ t.cs.flatMap Tkt.encC) ++ Wire.be t.ts.length 1) ++ t.ts.flatMap Tkt.encX) ++ (Wire.be t.posts.toNat 1 ++ Wire.be t.hs.length 1)) ++ t.hs.flatMap Tkt.encE) = Tkt.encT t := by
    unfold Tkt.encT
    simp only [List.append_assoc]
  rw [← e]
  exact h.o
theorem bs_lits {W : World} {g : Nat} {cs : Array Value} (hr : W.heap[g]? = some (.cells cs 5 (0, 0))) (zs : List Int) (hm : zs.length ≤ 1000) (hz : ∀ z ∈ zs, Tkt.fitN z 256) (hc : cs = (zs.map (Value.int .u8)).toArray) : BS W (.slice (some ⟨g, 0, none⟩) zs.length zs.length) (zs.flatMap fun z => Wire.be z.toNat 1) := by
  have e : bytesV (zs.flatMap fun z => Wire.be z.toNat 1) = zs.map (Value.int .u8) := by
    clear hr hc hm
    induction zs with
    | nil => rfl
    | cons z zs ih =>
      rw [List.flatMap_cons, bytesV_append, ih (fun y hy => hz y (by simp [hy]))]
      have h1 := hz z (by simp)
      have h2 : Wire.be z.toNat 1 = [UInt8.ofNat (z.toNat % 256)] := rfl
      rw [h2]
      have h3 : ((UInt8.ofNat (z.toNat % 256)).toNat : Int) = z := by
        rw [UInt8.toNat_ofNat']
        have := h1.1
        have := h1.2
        omega
      show (Value.int .u8 ((UInt8.ofNat (z.toNat % 256)).toNat : Int)) :: _ = _
      rw [h3]
      rfl
  refine BS.of_own (base := 0) (e := 5) (n := zs.length) ⟨by rw [e]; simp, .inr ⟨g, zs.length, cs, rfl, Nat.zero_le _, hr, Nat.le_refl _, by unfold maxLen; omega, by rw [hc]; simp, ?_⟩⟩
  rw [hc, e, Nat.mul_one, List.toList_toArray, List.take_of_length_le (by simp)]
theorem step_append_bytesT {ops : Array Oper} {o : Oper} {a : Act} {K : Act → World → Prop} {Q : Exit → Act → World → Prop} {E : Prop} {w : World} (hgd : o.guard = none) (s x : Operand)
    (ho : o.op = .call { callee := .builtin .append, args := #[s, x], argTypes := #[52, 52] }) (base : Nat) (v : Value) (n : Nat) (xs : List Value) (hs : a.eval s = v) (hown : w.ownsRow base 5 1 v n xs)
    (y : Value) (l : List UInt8) (hx : a.eval x = y) (hb : BS w y l) (hn : n + l.length ≤ 1099511627776) (hbase : base ≤ w.heap.size)
    (h : ∀ v' w', w'.ownsRow base 5 1 v' (n + l.length) (xs ++ bytesV l) → w.grownBy w' v.ownBlock → K (a.put o.dst v') w') :
    if Region.wanted o (yielded ops a.tmps) = true then Oper.wp Try.prog o a w K Q else E := by
  have hw : Region.wanted o (yielded ops a.tmps) = true := by simp [Region.wanted, hgd]
  rw [if_pos hw]
  obtain ⟨v', w', hr, g1, g2, _, _⟩ := run_append_bytes w base o.type v n xs hown y l hb hn hbase
  exact Lib.wp_append_run w s x _ _ ho v _ hs hx v' w' hr (h v' w' g1 g2)
theorem strCells_bytes (s : ByteArray) : Lib.strCells s = bytesV s.data.toList := rfl
theorem step_append_strT {ops : Array Oper} {o : Oper} {a : Act} {K : Act → World → Prop} {Q : Exit → Act → World → Prop} {E : Prop} {w : World} (hgd : o.guard = none) (s x : Operand)
    (ho : o.op = .call { callee := .builtin .append, args := #[s, x], argTypes := #[52, 9] }) (base : Nat) (v : Value) (n : Nat) (xs : List Value) (hs : a.eval s = v) (hown : w.ownsRow base 5 1 v n xs)
    (l : ByteArray) (hx : a.eval x = .string l) (hn : n + l.size ≤ 1099511627776) (hbase : base ≤ w.heap.size)
    (h : ∀ v' w', w'.ownsRow base 5 1 v' (n + l.size) (xs ++ bytesV l.data.toList) → w.grownBy w' v.ownBlock → K (a.put o.dst v') w') :
    if Region.wanted o (yielded ops a.tmps) = true then Oper.wp Try.prog o a w K Q else E := by
  have hw : Region.wanted o (yielded ops a.tmps) = true := by simp [Region.wanted, hgd]
  rw [if_pos hw]
  obtain ⟨i0, hi0, hi1, hi2, hi3⟩ := byte_info
  obtain ⟨v', w', hr, g1, g2, -⟩ := Lib.run_append_own_string (P := Try.prog) w base 52 9 o.type 5 i0 Try.underlying52 Try.underlying9 hi0 hi1 hi2 hi3 v n xs hown l (by unfold maxLen; omega) (by omega) hbase
  exact Lib.wp_append_run w s x _ _ ho v _ hs hx v' w' hr (h v' w' g1 g2)
attribute [local go_sem ↓] Cp_execLoad Cp_execStore Ev_execLoad Ev_execStore
attribute [local go_sem] Cp_load Cp_store Ev_load Ev_store loL_drew okL_drew there_sc World.there_drew
set_option maxRecDepth 8000 in
set_option maxHeartbeats 8000000 in
theorem rbytes13_any (t : Tk) (c x h : Sl) (w : World) (ts : TS w t c x h) (hm : Tkt.mayB t = true) : Calls Try.prog 23 #[.agg #[.int .u64 t.num, .string t.loc, .int .i64 t.iss, .slice c.p c.n c.c, .slice x.p x.n x.c, .int .u64 t.prev, .int .u64 t.org, .int .u64 t.fst, .int .i64 t.vou, .int .i64 t.posts, .slice h.p h.n h.c]] w fun e w' => ∃ v, e = .returned v ∧ w'.ownsRow w.heap.size 5 1 v (Tkt.encT t).length (bytesV (Tkt.encT t)) ∧ Below w.heap.size w w' := by
  have HTS := Lib.hid ts
  have FT := Lib.hid (Tkt.fits_of hm ts.wf)
  have HML := Lib.hid (Tkt.mayB_lens hm)
  have HL6L := Lib.hid (Tkt.loc_six hm)
  have HL6 : Hid (t.loc.size = 6) := Lib.hid (loc_size hm)
  have HY : Hid (YW w (w.alloc (.cells #[.int .u64 t.num, .string t.loc, .int .i64 t.iss, .slice c.p c.n c.c, .slice x.p x.n x.c, .int .u64 t.prev, .int .u64 t.org, .int .u64 t.fst, .int .i64 t.vou, .int .i64 t.posts, .slice h.p h.n h.c] 27 (0, 0))) (.slice none 0 0) [] 0) := Lib.hid ⟨(Below.refl w.heap.size w).alloc (Nat.le_refl _) _, World.ownsRow_nil _ _ _ _, Nat.le_refl _⟩
  have HR := Lib.hid (new_rowW w (.cells #[.int .u64 t.num, .string t.loc, .int .i64 t.iss, .slice c.p c.n c.c, .slice x.p x.n x.c, .int .u64 t.prev, .int .u64 t.org, .int .u64 t.fst, .int .i64 t.vou, .int .i64 t.posts, .slice h.p h.n h.c] 27 (0, 0)) _ rfl)
  have kiss : IntKind.u64.wrap t.iss = t.iss := wrap_fit FT.out.iss (by decide)
  have kvou : IntKind.u64.wrap t.vou = t.vou := wrap_fit FT.out.vou (by decide)
  have hcn := ts.cs.length.1; have hxn := ts.ts.length.1; have hhn := ts.hs.length.1
  have HCN := Lib.hid hcn; have HXN := Lib.hid hxn; have HHN := Lib.hid hhn
  clear ts hm hcn hxn hhn
  go_enter Try.func23, Try.ntmps23
  go_wp2_with fail
  generalize w.alloc (.cells #[.int .u64 t.num, .string t.loc, .int .i64 t.iss, .slice c.p c.n c.c, .slice x.p x.n x.c, .int .u64 t.prev, .int .u64 t.org, .int .u64 t.fst, .int .i64 t.vou, .int .i64 t.posts, .slice h.p h.n h.c] 27 (0, 0)) = w1 at *
  refine wp_region_G (C := fun W => (∀ j : Nat, W.cell? ⟨w.heap.size, j, none⟩ = (#[.int .u64 t.num, .string t.loc, .int .i64 t.iss, .slice c.p c.n c.c, .slice x.p x.n x.c, .int .u64 t.prev, .int .u64 t.org, .int .u64 t.fst, .int .i64 t.vou, .int .i64 t.posts, .slice h.p h.n h.c] : Array Value)[j]?)) (s0 := 5) (by kernel_rfl) ?_
  have HY := Lib.hid (HY.out.below (Below.refl _ _).drew)
  have HR := Lib.hid (row_drewT HR.out)
  generalize w1.drew = wd at *
  have hHeld := (show (∀ j : Nat, wd.cell? ⟨w.heap.size, j, none⟩ = (#[.int .u64 t.num, .string t.loc, .int .i64 t.iss, .slice c.p c.n c.c, .slice x.p x.n x.c, .int .u64 t.prev, .int .u64 t.org, .int .u64 t.fst, .int .i64 t.vou, .int .i64 t.posts, .slice h.p h.n h.c] : Array Value)[j]?) from fun j => cell_of_row wd w.heap.size j _ _ _ HR.out)
  refine wpAnyG_takeU (i := 0) (oi := { dst := some 9, op := Op.fieldAddr 27 (Operand.tmp 1) 0, type := 0, pos := "ref.go:132", after := #[], guard := none }) (v := ?_) rfl (by kernel_rfl) (by kernel_rfl) (by kernel_rfl) (by decide) (fun _ _ _ h => h) (Or.inl ⟨by rfl, ?_⟩) (.inl (by assumption)) ?_
  rotate_left
  · intro w hSw; go_simp; try with_reducible rfl
  try simp only [Act.put, List.setIfInBounds_toArray, List.set_cons_zero, List.set_cons_succ]
  refine wpAnyG_takeM (i := 1) (oi := { dst := some 10, op := Op.load 22 (Operand.tmp 9), type := 22, pos := "ref.go:132", after := #[{ on := 0, ground := Ground.data }], guard := none }) (v := ?_) (ms := [2, 5, 6]) rfl (by kernel_rfl) (by kernel_rfl) (by kernel_rfl) (by kernel_rfl) (by kernel_rfl) (fun _ _ _ h => h) (Or.inl ⟨by rfl, ?_⟩) (by assumption) ?_
  rotate_left
  · intro w hSw; (try dsimp only at hSw); go_simp; try with_reducible rfl
  try simp only [Act.put, List.setIfInBounds_toArray, List.set_cons_zero, List.set_cons_succ]
  refine wpAnyG_takeU (i := 3) (oi := { dst := some 12, op := Op.fieldAddr 27 (Operand.tmp 1) 1, type := 0, pos := "ref.go:132", after := #[], guard := none }) (v := ?_) rfl (by kernel_rfl) (by kernel_rfl) (by kernel_rfl) (by decide) (fun _ _ _ h => h) (Or.inl ⟨by rfl, ?_⟩) (.inl (by assumption)) ?_
  rotate_left
  · intro w hSw; go_simp; try with_reducible rfl
  try simp only [Act.put, List.setIfInBounds_toArray, List.set_cons_zero, List.set_cons_succ]
  refine wpAnyG_takeM (i := 4) (oi := { dst := some 13, op := Op.load 9 (Operand.tmp 12), type := 9, pos := "ref.go:132", after := #[{ on := 3, ground := Ground.data }], guard := none }) (v := ?_) (ms := [5, 6]) rfl (by kernel_rfl) (by kernel_rfl) (by kernel_rfl) (by kernel_rfl) (by kernel_rfl) (fun _ _ _ h => h) (Or.inl ⟨by rfl, ?_⟩) (by assumption) ?_
  rotate_left
  · intro w hSw; (try dsimp only at hSw); go_simp; try with_reducible rfl
  try simp only [Act.put, List.setIfInBounds_toArray, List.set_cons_zero, List.set_cons_succ]
  refine wpAnyG_one (i := 2) (o := { dst := some 11, op := Op.call { callee := Callee.value (Operand.func 72), args := #[Operand.const (Value.slice none 0 0), Operand.tmp 10, Operand.const (Value.int IntKind.i64 8)], argTypes := #[52, 22, 3] }, type := 52, pos := "ref.go:132", after := #[{ on := 1, ground := Ground.data }], guard := none }) (by kernel_rfl) rfl (fun K hK => ?_)
  go_simp
  go_at_call 72
  refine (put13_any w.heap.size _ _ t.num 8 (by decide) FT.out.num (by decide) (by have := HY.out.l; omega) _ HY.out.b.size HY.out.o).mono ?_
  rintro e wq ⟨u, rfl, hown, hg⟩
  have HYO := HY
  have HY := Lib.hid (HYO.out.grown hown hg (8) (Wire.be_length _ _))
  have HR := Lib.hid (HYO.out.row hg HR.out (by decide))
  clear hown hg HYO
  have hHeld := (show (∀ j : Nat, wq.cell? ⟨w.heap.size, j, none⟩ = (#[.int .u64 t.num, .string t.loc, .int .i64 t.iss, .slice c.p c.n c.c, .slice x.p x.n x.c, .int .u64 t.prev, .int .u64 t.org, .int .u64 t.fst, .int .i64 t.vou, .int .i64 t.posts, .slice h.p h.n h.c] : Array Value)[j]?) from fun j => cell_of_row wq w.heap.size j _ _ _ HR.out)
  refine hK.out _ _ (.inl hHeld) ?_
  clear hK K
  try simp only [Act.put, List.setIfInBounds_toArray, List.set_cons_zero, List.set_cons_succ]
  refine wpAnyG_one (i := 5) (o := { dst := some 14, op := Op.call { callee := Callee.builtin Builtin.append, args := #[Operand.tmp 11, Operand.tmp 13], argTypes := #[52, 9] }, type := 52, pos := "ref.go:132", after := #[{ on := 2, ground := Ground.data }, { on := 4, ground := Ground.data }, { on := 2, ground := Ground.chain }], guard := none }) (by kernel_rfl) rfl (fun K hK => ?_)
  refine step_append_strT rfl _ _ rfl w.heap.size _ _ _ rfl HY.out.o _ rfl (by have := HY.out.l; have := HL6.out; omega) HY.out.b.size ?_
  intro u wq hown hg
  have HYO := HY
  have HY := Lib.hid (HYO.out.app hown hg 6 (by rw [HL6L.out]))
  have HR := Lib.hid (HYO.out.row hg HR.out (by decide))
  clear hown hg HYO
  refine hK.out _ _ (.inr rfl) ?_
  clear hK K
  try simp only [Act.put, List.setIfInBounds_toArray, List.set_cons_zero, List.set_cons_succ]
  refine wpAnyG_takeU (i := 6) (oi := { dst := some 3, op := Op.assign (Operand.tmp 14), type := 52, pos := "ref.go:132", after := #[{ on := 5, ground := Ground.data }, { on := 5, ground := Ground.chain }, { on := 0, ground := Ground.phase }, { on := 1, ground := Ground.phase }, { on := 2, ground := Ground.phase }, { on := 3, ground := Ground.phase }, { on := 4, ground := Ground.phase }, { on := 5, ground := Ground.phase }], guard := none }) (v := ?_) rfl (by kernel_rfl) (by kernel_rfl) (by kernel_rfl) (by decide) (fun _ _ _ h => h) (Or.inl ⟨by rfl, ?_⟩) (.inr rfl) ?_
  rotate_left
  · intro w hSw; go_simp; try with_reducible rfl
  try simp only [Act.put, List.setIfInBounds_toArray, List.set_cons_zero, List.set_cons_succ]
  refine wpAnyG_done (by kernel_rfl) ?_ _
  clear hHeld
  go_wp2_with fail
  refine wp_region_G (C := fun W => (∀ j : Nat, W.cell? ⟨w.heap.size, j, none⟩ = (#[.int .u64 t.num, .string t.loc, .int .i64 t.iss, .slice c.p c.n c.c, .slice x.p x.n x.c, .int .u64 t.prev, .int .u64 t.org, .int .u64 t.fst, .int .i64 t.vou, .int .i64 t.posts, .slice h.p h.n h.c] : Array Value)[j]?)) (s0 := 13) (by kernel_rfl) ?_
  have HY := Lib.hid (HY.out.below (Below.refl _ _).drew)
  have HR := Lib.hid (row_drewT HR.out)
  generalize wq.drew = wd at *
  have hHeld := (show (∀ j : Nat, wd.cell? ⟨w.heap.size, j, none⟩ = (#[.int .u64 t.num, .string t.loc, .int .i64 t.iss, .slice c.p c.n c.c, .slice x.p x.n x.c, .int .u64 t.prev, .int .u64 t.org, .int .u64 t.fst, .int .i64 t.vou, .int .i64 t.posts, .slice h.p h.n h.c] : Array Value)[j]?) from fun j => cell_of_row wd w.heap.size j _ _ _ HR.out)
  refine wpAnyG_takeU (i := 0) (oi := { dst := some 15, op := Op.move (Operand.tmp 3), type := 52, pos := "ref.go:133", after := #[], guard := none }) (v := ?_) rfl (by kernel_rfl) (by kernel_rfl) (by kernel_rfl) (by decide) (fun _ _ _ h => h) (Or.inl ⟨by rfl, ?_⟩) (.inl (by assumption)) ?_
  rotate_left
  · intro w hSw; go_simp; try with_reducible rfl
  try simp only [Act.put, List.setIfInBounds_toArray, List.set_cons_zero, List.set_cons_succ]
  refine wpAnyG_takeU (i := 1) (oi := { dst := some 16, op := Op.fieldAddr 27 (Operand.tmp 1) 2, type := 0, pos := "ref.go:133", after := #[], guard := none }) (v := ?_) rfl (by kernel_rfl) (by kernel_rfl) (by kernel_rfl) (by decide) (fun _ _ _ h => h) (Or.inl ⟨by rfl, ?_⟩) (.inl (by assumption)) ?_
  rotate_left
  · intro w hSw; go_simp; try with_reducible rfl
  try simp only [Act.put, List.setIfInBounds_toArray, List.set_cons_zero, List.set_cons_succ]
  refine wpAnyG_takeM (i := 2) (oi := { dst := some 17, op := Op.load 3 (Operand.tmp 16), type := 3, pos := "ref.go:133", after := #[{ on := 1, ground := Ground.data }], guard := none }) (v := ?_) (ms := [3, 4, 7, 10, 13, 14]) rfl (by kernel_rfl) (by kernel_rfl) (by kernel_rfl) (by kernel_rfl) (by kernel_rfl) (fun _ _ _ h => h) (Or.inl ⟨by rfl, ?_⟩) (by assumption) ?_
  rotate_left
  · intro w hSw; (try dsimp only at hSw); go_simp; try with_reducible rfl
  try simp only [Act.put, List.setIfInBounds_toArray, List.set_cons_zero, List.set_cons_succ]
  refine wpAnyG_takeU (i := 3) (oi := { dst := some 18, op := Op.convert 3 22 (Operand.tmp 17), type := 22, pos := "ref.go:133", after := #[{ on := 2, ground := Ground.data }], guard := none }) (v := ?_) rfl (by kernel_rfl) (by kernel_rfl) (by kernel_rfl) (by decide) (fun _ _ _ h => h) (Or.inl ⟨by rfl, ?_⟩) (.inl (by assumption)) ?_
  rotate_left
  · intro w hSw; go_simp; try with_reducible rfl
  try simp only [Act.put, List.setIfInBounds_toArray, List.set_cons_zero, List.set_cons_succ]
  refine wpAnyG_takeU (i := 5) (oi := { dst := some 20, op := Op.fieldAddr 27 (Operand.tmp 1) 5, type := 0, pos := "ref.go:133", after := #[], guard := none }) (v := ?_) rfl (by kernel_rfl) (by kernel_rfl) (by kernel_rfl) (by decide) (fun _ _ _ h => h) (Or.inl ⟨by rfl, ?_⟩) (.inl (by assumption)) ?_
  rotate_left
  · intro w hSw; go_simp; try with_reducible rfl
  try simp only [Act.put, List.setIfInBounds_toArray, List.set_cons_zero, List.set_cons_succ]
  refine wpAnyG_takeM (i := 6) (oi := { dst := some 21, op := Op.load 22 (Operand.tmp 20), type := 22, pos := "ref.go:133", after := #[{ on := 5, ground := Ground.data }], guard := none }) (v := ?_) (ms := [7, 10, 13, 14]) rfl (by kernel_rfl) (by kernel_rfl) (by kernel_rfl) (by kernel_rfl) (by kernel_rfl) (fun _ _ _ h => h) (Or.inl ⟨by rfl, ?_⟩) (by assumption) ?_
  rotate_left
  · intro w hSw; (try dsimp only at hSw); go_simp; try with_reducible rfl
  try simp only [Act.put, List.setIfInBounds_toArray, List.set_cons_zero, List.set_cons_succ]
  refine wpAnyG_takeU (i := 8) (oi := { dst := some 23, op := Op.fieldAddr 27 (Operand.tmp 1) 6, type := 0, pos := "ref.go:133", after := #[], guard := none }) (v := ?_) rfl (by kernel_rfl) (by kernel_rfl) (by kernel_rfl) (by decide) (fun _ _ _ h => h) (Or.inl ⟨by rfl, ?_⟩) (.inl (by assumption)) ?_
  rotate_left
  · intro w hSw; go_simp; try with_reducible rfl
  try simp only [Act.put, List.setIfInBounds_toArray, List.set_cons_zero, List.set_cons_succ]
  refine wpAnyG_takeM (i := 9) (oi := { dst := some 24, op := Op.load 22 (Operand.tmp 23), type := 22, pos := "ref.go:133", after := #[{ on := 8, ground := Ground.data }], guard := none }) (v := ?_) (ms := [10, 13, 14]) rfl (by kernel_rfl) (by kernel_rfl) (by kernel_rfl) (by kernel_rfl) (by kernel_rfl) (fun _ _ _ h => h) (Or.inl ⟨by rfl, ?_⟩) (by assumption) ?_
  rotate_left
  · intro w hSw; (try dsimp only at hSw); go_simp; try with_reducible rfl
  try simp only [Act.put, List.setIfInBounds_toArray, List.set_cons_zero, List.set_cons_succ]
  refine wpAnyG_takeU (i := 11) (oi := { dst := some 26, op := Op.fieldAddr 27 (Operand.tmp 1) 7, type := 0, pos := "ref.go:133", after := #[], guard := none }) (v := ?_) rfl (by kernel_rfl) (by kernel_rfl) (by kernel_rfl) (by decide) (fun _ _ _ h => h) (Or.inl ⟨by rfl, ?_⟩) (.inl (by assumption)) ?_
  rotate_left
  · intro w hSw; go_simp; try with_reducible rfl
  try simp only [Act.put, List.setIfInBounds_toArray, List.set_cons_zero, List.set_cons_succ]
  refine wpAnyG_takeM (i := 12) (oi := { dst := some 27, op := Op.load 22 (Operand.tmp 26), type := 22, pos := "ref.go:133", after := #[{ on := 11, ground := Ground.data }], guard := none }) (v := ?_) (ms := [13, 14]) rfl (by kernel_rfl) (by kernel_rfl) (by kernel_rfl) (by kernel_rfl) (by kernel_rfl) (fun _ _ _ h => h) (Or.inl ⟨by rfl, ?_⟩) (by assumption) ?_
  rotate_left
  · intro w hSw; (try dsimp only at hSw); go_simp; try with_reducible rfl
  try simp only [Act.put, List.setIfInBounds_toArray, List.set_cons_zero, List.set_cons_succ]
  refine wpAnyG_one (i := 4) (o := { dst := some 19, op := Op.call { callee := Callee.value (Operand.func 72), args := #[Operand.tmp 15, Operand.tmp 18, Operand.const (Value.int IntKind.i64 4)], argTypes := #[52, 22, 3] }, type := 52, pos := "ref.go:133", after := #[{ on := 0, ground := Ground.data }, { on := 3, ground := Ground.data }], guard := none }) (by kernel_rfl) rfl (fun K hK => ?_)
  go_simp
  go_at_call 72
  refine (put13_any w.heap.size _ _ t.iss 4 (by decide) FT.out.iss (by decide) (by have := HY.out.l; omega) _ HY.out.b.size HY.out.o).mono ?_
  rintro e wq ⟨u, rfl, hown, hg⟩
  have HYO := HY
  have HY := Lib.hid (HYO.out.grown hown hg (4) (Wire.be_length _ _))
  have HR := Lib.hid (HYO.out.row hg HR.out (by decide))
  clear hown hg HYO
  have hHeld := (show (∀ j : Nat, wq.cell? ⟨w.heap.size, j, none⟩ = (#[.int .u64 t.num, .string t.loc, .int .i64 t.iss, .slice c.p c.n c.c, .slice x.p x.n x.c, .int .u64 t.prev, .int .u64 t.org, .int .u64 t.fst, .int .i64 t.vou, .int .i64 t.posts, .slice h.p h.n h.c] : Array Value)[j]?) from fun j => cell_of_row wq w.heap.size j _ _ _ HR.out)
  refine hK.out _ _ (.inl hHeld) ?_
  clear hK K
  try simp only [Act.put, List.setIfInBounds_toArray, List.set_cons_zero, List.set_cons_succ]
  refine wpAnyG_one (i := 7) (o := { dst := some 22, op := Op.call { callee := Callee.value (Operand.func 72), args := #[Operand.tmp 19, Operand.tmp 21, Operand.const (Value.int IntKind.i64 8)], argTypes := #[52, 22, 3] }, type := 52, pos := "ref.go:133", after := #[{ on := 4, ground := Ground.data }, { on := 6, ground := Ground.data }, { on := 4, ground := Ground.chain }], guard := none }) (by kernel_rfl) rfl (fun K hK => ?_)
  go_simp
  go_at_call 72
  refine (put13_any w.heap.size _ _ t.prev 8 (by decide) FT.out.prev (by decide) (by have := HY.out.l; omega) _ HY.out.b.size HY.out.o).mono ?_
  rintro e wq ⟨u, rfl, hown, hg⟩
  have HYO := HY
  have HY := Lib.hid (HYO.out.grown hown hg (8) (Wire.be_length _ _))
  have HR := Lib.hid (HYO.out.row hg HR.out (by decide))
  clear hown hg HYO
  have hHeld := (show (∀ j : Nat, wq.cell? ⟨w.heap.size, j, none⟩ = (#[.int .u64 t.num, .string t.loc, .int .i64 t.iss, .slice c.p c.n c.c, .slice x.p x.n x.c, .int .u64 t.prev, .int .u64 t.org, .int .u64 t.fst, .int .i64 t.vou, .int .i64 t.posts, .slice h.p h.n h.c] : Array Value)[j]?) from fun j => cell_of_row wq w.heap.size j _ _ _ HR.out)
  refine hK.out _ _ (.inl hHeld) ?_
  clear hK K
  try simp only [Act.put, List.setIfInBounds_toArray, List.set_cons_zero, List.set_cons_succ]
  refine wpAnyG_one (i := 10) (o := { dst := some 25, op := Op.call { callee := Callee.value (Operand.func 72), args := #[Operand.tmp 22, Operand.tmp 24, Operand.const (Value.int IntKind.i64 8)], argTypes := #[52, 22, 3] }, type := 52, pos := "ref.go:133", after := #[{ on := 7, ground := Ground.data }, { on := 9, ground := Ground.data }, { on := 7, ground := Ground.chain }], guard := none }) (by kernel_rfl) rfl (fun K hK => ?_)
  go_simp
  go_at_call 72
  refine (put13_any w.heap.size _ _ t.org 8 (by decide) FT.out.org (by decide) (by have := HY.out.l; omega) _ HY.out.b.size HY.out.o).mono ?_
  rintro e wq ⟨u, rfl, hown, hg⟩
  have HYO := HY
  have HY := Lib.hid (HYO.out.grown hown hg (8) (Wire.be_length _ _))
  have HR := Lib.hid (HYO.out.row hg HR.out (by decide))
  clear hown hg HYO
  have hHeld := (show (∀ j : Nat, wq.cell? ⟨w.heap.size, j, none⟩ = (#[.int .u64 t.num, .string t.loc, .int .i64 t.iss, .slice c.p c.n c.c, .slice x.p x.n x.c, .int .u64 t.prev, .int .u64 t.org, .int .u64 t.fst, .int .i64 t.vou, .int .i64 t.posts, .slice h.p h.n h.c] : Array Value)[j]?) from fun j => cell_of_row wq w.heap.size j _ _ _ HR.out)
  refine hK.out _ _ (.inl hHeld) ?_
  clear hK K
  try simp only [Act.put, List.setIfInBounds_toArray, List.set_cons_zero, List.set_cons_succ]
  refine wpAnyG_one (i := 13) (o := { dst := some 28, op := Op.call { callee := Callee.value (Operand.func 72), args := #[Operand.tmp 25, Operand.tmp 27, Operand.const (Value.int IntKind.i64 8)], argTypes := #[52, 22, 3] }, type := 52, pos := "ref.go:133", after := #[{ on := 10, ground := Ground.data }, { on := 12, ground := Ground.data }, { on := 10, ground := Ground.chain }], guard := none }) (by kernel_rfl) rfl (fun K hK => ?_)
  go_simp
  go_at_call 72
  refine (put13_any w.heap.size _ _ t.fst 8 (by decide) FT.out.fst (by decide) (by have := HY.out.l; omega) _ HY.out.b.size HY.out.o).mono ?_
  rintro e wq ⟨u, rfl, hown, hg⟩
  have HYO := HY
  have HY := Lib.hid (HYO.out.grown hown hg (8) (Wire.be_length _ _))
  have HR := Lib.hid (HYO.out.row hg HR.out (by decide))
  clear hown hg HYO
  refine hK.out _ _ (.inr rfl) ?_
  clear hK K
  try simp only [Act.put, List.setIfInBounds_toArray, List.set_cons_zero, List.set_cons_succ]
  refine wpAnyG_takeU (i := 14) (oi := { dst := some 3, op := Op.assign (Operand.tmp 28), type := 52, pos := "ref.go:133", after := #[{ on := 13, ground := Ground.data }, { on := 13, ground := Ground.chain }, { on := 0, ground := Ground.phase }, { on := 1, ground := Ground.phase }, { on := 2, ground := Ground.phase }, { on := 3, ground := Ground.phase }, { on := 4, ground := Ground.phase }, { on := 5, ground := Ground.phase }, { on := 6, ground := Ground.phase }, { on := 7, ground := Ground.phase }, { on := 8, ground := Ground.phase }, { on := 9, ground := Ground.phase }, { on := 10, ground := Ground.phase }, { on := 11, ground := Ground.phase }, { on := 12, ground := Ground.phase }, { on := 13, ground := Ground.phase }], guard := none }) (v := ?_) rfl (by kernel_rfl) (by kernel_rfl) (by kernel_rfl) (by decide) (fun _ _ _ h => h) (Or.inl ⟨by rfl, ?_⟩) (.inr rfl) ?_
  rotate_left
  · intro w hSw; go_simp; try with_reducible rfl
  try simp only [Act.put, List.setIfInBounds_toArray, List.set_cons_zero, List.set_cons_succ]
  refine wpAnyG_done (by kernel_rfl) ?_ _
  clear hHeld
  have kcn : IntKind.u8.wrap (c.n : Int) = (c.n : Int) := wrap_byte (fit_len HCN.out (by have := HML.out; omega))
  have HFC : Hid (Tkt.fitN (c.n : Int) 256) := Lib.hid (fit_len HCN.out (by have := HML.out; omega))
  go_wp2_with fail
  refine wp_region_G (C := fun W => (∀ j : Nat, W.cell? ⟨w.heap.size, j, none⟩ = (#[.int .u64 t.num, .string t.loc, .int .i64 t.iss, .slice c.p c.n c.c, .slice x.p x.n x.c, .int .u64 t.prev, .int .u64 t.org, .int .u64 t.fst, .int .i64 t.vou, .int .i64 t.posts, .slice h.p h.n h.c] : Array Value)[j]?)) (s0 := 10) (by kernel_rfl) ?_
  have HY := Lib.hid (HY.out.below (Below.refl _ _).drew)
  have HR := Lib.hid (row_drewT HR.out)
  generalize wq.drew = wd at *
  have hHeld := (show (∀ j : Nat, wd.cell? ⟨w.heap.size, j, none⟩ = (#[.int .u64 t.num, .string t.loc, .int .i64 t.iss, .slice c.p c.n c.c, .slice x.p x.n x.c, .int .u64 t.prev, .int .u64 t.org, .int .u64 t.fst, .int .i64 t.vou, .int .i64 t.posts, .slice h.p h.n h.c] : Array Value)[j]?) from fun j => cell_of_row wd w.heap.size j _ _ _ HR.out)
  refine wpAnyG_takeU (i := 0) (oi := { dst := some 29, op := Op.move (Operand.tmp 3), type := 52, pos := "ref.go:134", after := #[], guard := none }) (v := ?_) rfl (by kernel_rfl) (by kernel_rfl) (by kernel_rfl) (by decide) (fun _ _ _ h => h) (Or.inl ⟨by rfl, ?_⟩) (.inl (by assumption)) ?_
  rotate_left
  · intro w hSw; go_simp; try with_reducible rfl
  try simp only [Act.put, List.setIfInBounds_toArray, List.set_cons_zero, List.set_cons_succ]
  refine wpAnyG_takeU (i := 1) (oi := { dst := some 30, op := Op.fieldAddr 27 (Operand.tmp 1) 8, type := 0, pos := "ref.go:134", after := #[], guard := none }) (v := ?_) rfl (by kernel_rfl) (by kernel_rfl) (by kernel_rfl) (by decide) (fun _ _ _ h => h) (Or.inl ⟨by rfl, ?_⟩) (.inl (by assumption)) ?_
  rotate_left
  · intro w hSw; go_simp; try with_reducible rfl
  try simp only [Act.put, List.setIfInBounds_toArray, List.set_cons_zero, List.set_cons_succ]
  refine wpAnyG_takeM (i := 2) (oi := { dst := some 31, op := Op.load 2 (Operand.tmp 30), type := 2, pos := "ref.go:134", after := #[{ on := 1, ground := Ground.data }], guard := none }) (v := ?_) (ms := [3, 4, 10, 11]) rfl (by kernel_rfl) (by kernel_rfl) (by kernel_rfl) (by kernel_rfl) (by kernel_rfl) (fun _ _ _ h => h) (Or.inl ⟨by rfl, ?_⟩) (by assumption) ?_
  rotate_left
  · intro w hSw; (try dsimp only at hSw); go_simp; try with_reducible rfl
  try simp only [Act.put, List.setIfInBounds_toArray, List.set_cons_zero, List.set_cons_succ]
  refine wpAnyG_takeU (i := 3) (oi := { dst := some 32, op := Op.convert 2 22 (Operand.tmp 31), type := 22, pos := "ref.go:134", after := #[{ on := 2, ground := Ground.data }], guard := none }) (v := ?_) rfl (by kernel_rfl) (by kernel_rfl) (by kernel_rfl) (by decide) (fun _ _ _ h => h) (Or.inl ⟨by rfl, ?_⟩) (.inl (by assumption)) ?_
  rotate_left
  · intro w hSw; go_simp; try with_reducible rfl
  try simp only [Act.put, List.setIfInBounds_toArray, List.set_cons_zero, List.set_cons_succ]
  refine wpAnyG_takeU (i := 5) (oi := { dst := some 34, op := Op.fieldAddr 27 (Operand.tmp 1) 3, type := 0, pos := "ref.go:134", after := #[], guard := none }) (v := ?_) rfl (by kernel_rfl) (by kernel_rfl) (by kernel_rfl) (by decide) (fun _ _ _ h => h) (Or.inl ⟨by rfl, ?_⟩) (.inl (by assumption)) ?_
  rotate_left
  · intro w hSw; go_simp; try with_reducible rfl
  try simp only [Act.put, List.setIfInBounds_toArray, List.set_cons_zero, List.set_cons_succ]
  refine wpAnyG_takeM (i := 6) (oi := { dst := some 35, op := Op.load 23 (Operand.tmp 34), type := 23, pos := "ref.go:134", after := #[{ on := 5, ground := Ground.data }], guard := none }) (v := ?_) (ms := [7, 8, 9, 10, 11]) rfl (by kernel_rfl) (by kernel_rfl) (by kernel_rfl) (by kernel_rfl) (by kernel_rfl) (fun _ _ _ h => h) (Or.inl ⟨by rfl, ?_⟩) (by assumption) ?_
  rotate_left
  · intro w hSw; (try dsimp only at hSw); go_simp; try with_reducible rfl
  try simp only [Act.put, List.setIfInBounds_toArray, List.set_cons_zero, List.set_cons_succ]
  refine wpAnyG_takeU (i := 7) (oi := { dst := some 36, op := Op.call { callee := Callee.builtin Builtin.len, args := #[Operand.tmp 35], argTypes := #[23] }, type := 3, pos := "ref.go:134", after := #[{ on := 6, ground := Ground.data }], guard := none }) (v := ?_) rfl (by kernel_rfl) (by kernel_rfl) (by kernel_rfl) (by decide) (fun _ _ _ h => h) (Or.inl ⟨by rfl, ?_⟩) (.inl (by assumption)) ?_
  rotate_left
  · intro w hSw; go_simp; try with_reducible rfl
  try simp only [Act.put, List.setIfInBounds_toArray, List.set_cons_zero, List.set_cons_succ]
  refine wpAnyG_takeU (i := 8) (oi := { dst := some 37, op := Op.convert 3 5 (Operand.tmp 36), type := 5, pos := "ref.go:134", after := #[{ on := 7, ground := Ground.data }], guard := none }) (v := ?_) rfl (by kernel_rfl) (by kernel_rfl) (by kernel_rfl) (by decide) (fun _ _ _ h => h) (Or.inl ⟨by rfl, ?_⟩) (.inl (by assumption)) ?_
  rotate_left
  · intro w hSw; go_simp; try with_reducible rfl
  try simp only [Act.put, List.setIfInBounds_toArray, List.set_cons_zero, List.set_cons_succ]
  refine cutK (J := ?J3) ?h3 ?k3
  case h3 =>
    intro hJ
    have HJ := Lib.hid hJ
    clear hJ
    refine wpAnyG_two (i := 4) (oi := { dst := some 33, op := Op.call { callee := Callee.value (Operand.func 72), args := #[Operand.tmp 29, Operand.tmp 32, Operand.const (Value.int IntKind.i64 8)], argTypes := #[52, 22, 3] }, type := 52, pos := "ref.go:134", after := #[{ on := 0, ground := Ground.data }, { on := 3, ground := Ground.data }], guard := none }) (j := 9) (oj := { dst := some 38, op := Op.buildSlice 52 1 #[(0, Operand.tmp 37)], type := 52, pos := "ref.go:134", after := #[{ on := 8, ground := Ground.data }], guard := none }) (by kernel_rfl) rfl rfl (fun K hK => ?_) (fun K hK => ?_)
    · go_simp
      go_at_call 72
      refine (put13_any w.heap.size _ _ t.vou 8 (by decide) FT.out.vou (by decide) (by have := HY.out.l; omega) _ HY.out.b.size HY.out.o).mono ?_
      rintro e wq ⟨u, rfl, hown, hg⟩
      have HYO := HY
      have HY := Lib.hid (HYO.out.grown hown hg (8) (Wire.be_length _ _))
      have HR := Lib.hid (HYO.out.row hg HR.out (by decide))
      clear hown hg HYO
      have hHeld := (show (∀ j : Nat, wq.cell? ⟨w.heap.size, j, none⟩ = (#[.int .u64 t.num, .string t.loc, .int .i64 t.iss, .slice c.p c.n c.c, .slice x.p x.n x.c, .int .u64 t.prev, .int .u64 t.org, .int .u64 t.fst, .int .i64 t.vou, .int .i64 t.posts, .slice h.p h.n h.c] : Array Value)[j]?) from fun j => cell_of_row wq w.heap.size j _ _ _ HR.out)
      refine hK.out _ _ (.inl hHeld) ?_
      clear hK K
      try simp only [Act.put, List.setIfInBounds_toArray, List.set_cons_zero, List.set_cons_succ]
      refine wpAnyG_one (i := 9) (o := { dst := some 38, op := Op.buildSlice 52 1 #[(0, Operand.tmp 37)], type := 52, pos := "ref.go:134", after := #[{ on := 8, ground := Ground.data }], guard := none }) (by kernel_rfl) rfl (fun K hK => ?_)
      go_simp
      have hbn := (Below.refl wq.heap.size wq).alloc (Nat.le_refl _) (.cells #[.int .u8 (c.n : Int)] 5 (0, 0))
      replace HY := Lib.hid (HY.out.below hbn)
      have HR := Lib.hid ((hbn.block _ (block_lt HR.out)).trans HR.out)
      have HTR := Lib.hid (new_rowW wq (.cells #[.int .u8 (c.n : Int)] 5 (0, 0)) _ rfl)
      clear hbn
      have hHeld := (show (∀ j : Nat, (wq.alloc (.cells #[.int .u8 (c.n : Int)] 5 (0, 0))).cell? ⟨w.heap.size, j, none⟩ = (#[.int .u64 t.num, .string t.loc, .int .i64 t.iss, .slice c.p c.n c.c, .slice x.p x.n x.c, .int .u64 t.prev, .int .u64 t.org, .int .u64 t.fst, .int .i64 t.vou, .int .i64 t.posts, .slice h.p h.n h.c] : Array Value)[j]?) from fun j => cell_of_row _ w.heap.size j _ _ _ HR.out)
      refine hK.out _ _ (.inl hHeld) ?_
      clear hK K
      try simp only [Act.put, List.setIfInBounds_toArray, List.set_cons_zero, List.set_cons_succ]
      clear hHeld
      generalize wq.alloc (.cells #[.int .u8 (c.n : Int)] 5 (0, 0)) = Y at HY HR HTR ⊢
      generalize wq.heap.size = gb at HTR ⊢
      revert HY HR HTR
      revert Y gb u
      exact HJ.out
    · go_simp
      have hbn := (Below.refl wd.heap.size wd).alloc (Nat.le_refl _) (.cells #[.int .u8 (c.n : Int)] 5 (0, 0))
      have HYW := HY
      have HY := Lib.hid (HY.out.below hbn)
      have HR := Lib.hid ((hbn.block _ (block_lt HR.out)).trans HR.out)
      have HTR0 := Lib.hid (new_rowW wd (.cells #[.int .u8 (c.n : Int)] 5 (0, 0)) _ rfl)
      clear hbn
      have hHeld := (show (∀ j : Nat, (wd.alloc (.cells #[.int .u8 (c.n : Int)] 5 (0, 0))).cell? ⟨w.heap.size, j, none⟩ = (#[.int .u64 t.num, .string t.loc, .int .i64 t.iss, .slice c.p c.n c.c, .slice x.p x.n x.c, .int .u64 t.prev, .int .u64 t.org, .int .u64 t.fst, .int .i64 t.vou, .int .i64 t.posts, .slice h.p h.n h.c] : Array Value)[j]?) from fun j => cell_of_row _ w.heap.size j _ _ _ HR.out)
      refine hK.out _ _ (.inl hHeld) ?_
      clear hK K
      try simp only [Act.put, List.setIfInBounds_toArray, List.set_cons_zero, List.set_cons_succ]
      refine wpAnyG_one (i := 4) (o := { dst := some 33, op := Op.call { callee := Callee.value (Operand.func 72), args := #[Operand.tmp 29, Operand.tmp 32, Operand.const (Value.int IntKind.i64 8)], argTypes := #[52, 22, 3] }, type := 52, pos := "ref.go:134", after := #[{ on := 0, ground := Ground.data }, { on := 3, ground := Ground.data }], guard := none }) (by kernel_rfl) rfl (fun K hK => ?_)
      go_simp
      go_at_call 72
      refine (put13_any w.heap.size _ _ t.vou 8 (by decide) FT.out.vou (by decide) (by have := HY.out.l; omega) _ HY.out.b.size HY.out.o).mono ?_
      rintro e wq ⟨u, rfl, hown, hg⟩
      have HYO := HY
      have HY := Lib.hid (HYO.out.grown hown hg (8) (Wire.be_length _ _))
      have HR := Lib.hid (HYO.out.row hg HR.out (by decide))
      have HTR := Lib.hid ((hg.block _ (block_lt HTR0.out) (fun k => by have := (HYW.out.o.lt _ k.symm).2; omega)).trans HTR0.out)
      clear HTR0 HYW
      clear hown hg HYO
      have hHeld := (show (∀ j : Nat, wq.cell? ⟨w.heap.size, j, none⟩ = (#[.int .u64 t.num, .string t.loc, .int .i64 t.iss, .slice c.p c.n c.c, .slice x.p x.n x.c, .int .u64 t.prev, .int .u64 t.org, .int .u64 t.fst, .int .i64 t.vou, .int .i64 t.posts, .slice h.p h.n h.c] : Array Value)[j]?) from fun j => cell_of_row wq w.heap.size j _ _ _ HR.out)
      refine hK.out _ _ (.inl hHeld) ?_
      clear hK K
      try simp only [Act.put, List.setIfInBounds_toArray, List.set_cons_zero, List.set_cons_succ]
      clear hHeld
      generalize wq = Y at HY HR HTR ⊢
      generalize wd.heap.size = gb at HTR ⊢
      revert HY HR HTR
      revert Y gb u
      exact HJ.out
  case k3 =>
    intro u Y gb HY HR HTR
    have HLB := Lib.hid (bs_lits HTR.out [(c.n : Int)] (by simp) (by intro z hz; simp only [List.mem_cons, List.not_mem_nil, or_false] at hz; rcases hz with rfl <;> first | exact HFC.out) rfl)
    have hHeld := (show (∀ j : Nat, Y.cell? ⟨w.heap.size, j, none⟩ = (#[.int .u64 t.num, .string t.loc, .int .i64 t.iss, .slice c.p c.n c.c, .slice x.p x.n x.c, .int .u64 t.prev, .int .u64 t.org, .int .u64 t.fst, .int .i64 t.vou, .int .i64 t.posts, .slice h.p h.n h.c] : Array Value)[j]?) from fun j => cell_of_row Y w.heap.size j _ _ _ HR.out)
    clear HTR
    refine wpAnyG_one (i := 10) (o := { dst := some 39, op := Op.call { callee := Callee.builtin Builtin.append, args := #[Operand.tmp 33, Operand.tmp 38], argTypes := #[52, 52] }, type := 52, pos := "ref.go:134", after := #[{ on := 4, ground := Ground.data }, { on := 9, ground := Ground.data }, { on := 4, ground := Ground.chain }], guard := none }) (by kernel_rfl) rfl (fun K hK => ?_)
    refine step_append_bytesT rfl _ _ rfl w.heap.size _ _ _ rfl HY.out.o _ _ rfl HLB.out (by have := HY.out.l; have hl := lits_len [(c.n : Int)]; simp only [List.length_cons, List.length_nil] at hl; omega) HY.out.b.size ?_
    intro u2 wq hown hg
    have HYO := HY
    have HY := Lib.hid (HYO.out.app hown hg (1) (lits_len [(c.n : Int)]))
    have HR := Lib.hid (HYO.out.row hg HR.out (by decide))
    clear hown hg HYO HLB
    refine hK.out _ _ (.inr rfl) ?_
    clear hK K
    try simp only [Act.put, List.setIfInBounds_toArray, List.set_cons_zero, List.set_cons_succ]
    refine wpAnyG_takeU (i := 11) (oi := { dst := some 3, op := Op.assign (Operand.tmp 39), type := 52, pos := "ref.go:134", after := #[{ on := 10, ground := Ground.data }, { on := 10, ground := Ground.chain }, { on := 0, ground := Ground.phase }, { on := 1, ground := Ground.phase }, { on := 2, ground := Ground.phase }, { on := 3, ground := Ground.phase }, { on := 4, ground := Ground.phase }, { on := 5, ground := Ground.phase }, { on := 6, ground := Ground.phase }, { on := 7, ground := Ground.phase }, { on := 8, ground := Ground.phase }, { on := 9, ground := Ground.phase }, { on := 10, ground := Ground.phase }], guard := none }) (v := ?_) rfl (by kernel_rfl) (by kernel_rfl) (by kernel_rfl) (by decide) (fun _ _ _ h => h) (Or.inl ⟨by rfl, ?_⟩) (.inr rfl) ?_
    rotate_left
    · intro w hSw; go_simp; try with_reducible rfl
    try simp only [Act.put, List.setIfInBounds_toArray, List.set_cons_zero, List.set_cons_succ]
    refine wpAnyG_done (by kernel_rfl) ?_ _
    clear hHeld
    clear kcn kiss kvou
    have HY : Hid (YW w wq u2 (Tkt.encH t ++ Wire.be t.cs.length 1) (51)) := Lib.hid (HY.out.as (by simp [Tkt.encH, HCN.out, HXN.out, HHN.out, List.append_assoc]) (by omega))
    have hcc := fun j => cell_of_row wq w.heap.size j _ _ _ HR.out
    go_wp2_with fail
    clear hcc
    go_loopw [3, 4] (fun bv i wr => ∃ (j : Nat), j ≤ c.n ∧ i = .int .i64 j ∧ YW w wr bv (Tkt.encH t ++ Wire.be t.cs.length 1 ++ (t.cs.take j).flatMap Tkt.encC) (51 + 25 * j) ∧ wr.heap[w.heap.size]? = some (.cells #[.int .u64 t.num, .string t.loc, .int .i64 t.iss, .slice c.p c.n c.c, .slice x.p x.n x.c, .int .u64 t.prev, .int .u64 t.org, .int .u64 t.fst, .int .i64 t.vou, .int .i64 t.posts, .slice h.p h.n h.c] 27 (0, 0))) (fun _ i _ => c.n - (intOf i).toNat)
    case atStart => exact ⟨0, Nat.zero_le _, rfl, HY.out.as (by simp) (by omega), HR.out⟩
    case round =>
      obtain ⟨j, hj, rfl, hy, hr⟩ := hrel
      have HY := Lib.hid hy
      have HR := Lib.hid hr
      clear hy hr
      have hnb : c.n ≤ 4 := by have := HML.out; have := HCN.out; have := HXN.out; have := HHN.out; omega
      by_cases hlt : j < c.n
      · obtain ⟨y, hy⟩ : ∃ y, t.cs[j]? = some y := ⟨_, List.getElem?_eq_getElem (by have := HCN.out; have := HXN.out; have := HHN.out; omega)⟩
        have HX := Lib.hid hy
        have FC := Lib.hid (FT.out.cs y (List.mem_of_getElem? hy))
        obtain ⟨eb, ef, hp, -, hr⟩ := (HTS.out.below HY.out.b).cs.at hy
        obtain ⟨g1, g2⟩ := loL_of hr (Cpn.cells_length y)
        have g3 : y.cells = [.int .i64 y.fl, .int .i64 y.dy, .int .i64 y.va, .int .i64 y.st, .int .i64 y.ho, .int .u64 y.nx] := rfl
        rw [g3] at g1
        have hcs : wr.cell? ⟨w.heap.size, 3, none⟩ = some (.slice (some ⟨eb, ef, none⟩) c.n c.c) := by rw [← hp]; exact cell_of_row wr w.heap.size 3 _ _ _ HR.out
        clear g3 hr hy hp
        have tc := there_newT (w := wr) (zs := [.int .i64 0, .int .i64 0, .int .i64 0, .int .i64 0, .int .i64 0, .int .u64 0]) (e := 44) (n := 6) rfl
        have c6n : ([.int .i64 y.fl, .int .i64 y.dy, .int .i64 y.va, .int .i64 y.st, .int .i64 y.ho, .int .u64 y.nx] : List Value).length = 6 := rfl
        have c6c : ([.int .i64 y.fl, .int .i64 y.dy, .int .i64 y.va, .int .i64 y.st, .int .i64 y.ho, .int .u64 y.nx] : List Value).all (·.oneCell') = true := rfl
        go_upto_region 8 with fail
        have HP := Lib.hid (putRec (W := wr) (e := 44) (zs := [.int .i64 0, .int .i64 0, .int .i64 0, .int .i64 0, .int .i64 0, .int .u64 0]) (cs := [.int .i64 y.fl, .int .i64 y.dy, .int .i64 y.va, .int .i64 y.st, .int .i64 y.ho, .int .u64 y.nx]) rfl)
        have HY := Lib.hid (HY.out.below HP.out.2)
        have HR := Lib.hid ((HP.out.2.block _ (block_lt HR.out)).trans HR.out)
        have HRC := Lib.hid HP.out.1
        clear HP tc c6n c6c g1 g2 hcs
        generalize (wr.alloc (.cells #[.int .i64 0, .int .i64 0, .int .i64 0, .int .i64 0, .int .i64 0, .int .u64 0] 44 (0, 0))).setCells wr.heap.size 0 [.int .i64 y.fl, .int .i64 y.dy, .int .i64 y.va, .int .i64 y.st, .int .i64 y.ho, .int .u64 y.nx] = w4 at *
        generalize wr.heap.size = gc at *
        have k1 : IntKind.u64.wrap y.fl = y.fl := wrap_fit FC.out.1 (by decide)
        have k2 : IntKind.u64.wrap y.dy = y.dy := wrap_fit FC.out.2.1 (by decide)
        have k3 : IntKind.u64.wrap y.va = y.va := wrap_fit FC.out.2.2.1 (by decide)
        refine wp_region_G (C := fun W => (∀ j : Nat, W.cell? ⟨gc, j, none⟩ = (#[.int .i64 y.fl, .int .i64 y.dy, .int .i64 y.va, .int .i64 y.st, .int .i64 y.ho, .int .u64 y.nx] : Array Value)[j]?)) (s0 := 12) (by kernel_rfl) ?_
        have HY := Lib.hid (HY.out.below (Below.refl _ _).drew)
        have HR := Lib.hid (row_drewT HR.out)
        have HRC := Lib.hid (row_drewT HRC.out)
        generalize w4.drew = wd at *
        have hHeld := (show (∀ j : Nat, wd.cell? ⟨gc, j, none⟩ = (#[.int .i64 y.fl, .int .i64 y.dy, .int .i64 y.va, .int .i64 y.st, .int .i64 y.ho, .int .u64 y.nx] : Array Value)[j]?) from fun j => cell_of_row wd gc j _ _ _ HRC.out)
        refine wpAnyG_takeU (i := 0) (oi := { dst := some 52, op := Op.move (Operand.tmp 3), type := 52, pos := "ref.go:137", after := #[], guard := none }) (v := ?_) rfl (by kernel_rfl) (by kernel_rfl) (by kernel_rfl) (by decide) (fun _ _ _ h => h) (Or.inl ⟨by rfl, ?_⟩) (.inl (by assumption)) ?_
        rotate_left
        · intro w hSw; go_simp; try with_reducible rfl
        try simp only [Act.put, List.setIfInBounds_toArray, List.set_cons_zero, List.set_cons_succ]
        refine wpAnyG_takeU (i := 1) (oi := { dst := some 53, op := Op.fieldAddr 44 (Operand.tmp 5) 0, type := 0, pos := "ref.go:137", after := #[], guard := none }) (v := ?_) rfl (by kernel_rfl) (by kernel_rfl) (by kernel_rfl) (by decide) (fun _ _ _ h => h) (Or.inl ⟨by rfl, ?_⟩) (.inl (by assumption)) ?_
        rotate_left
        · intro w hSw; go_simp; try with_reducible rfl
        try simp only [Act.put, List.setIfInBounds_toArray, List.set_cons_zero, List.set_cons_succ]
        refine wpAnyG_takeM (i := 2) (oi := { dst := some 54, op := Op.load 3 (Operand.tmp 53), type := 3, pos := "ref.go:137", after := #[{ on := 1, ground := Ground.data }], guard := none }) (v := ?_) (ms := [3, 4, 8, 12, 13]) rfl (by kernel_rfl) (by kernel_rfl) (by kernel_rfl) (by kernel_rfl) (by kernel_rfl) (fun _ _ _ h => h) (Or.inl ⟨by rfl, ?_⟩) (by assumption) ?_
        rotate_left
        · intro w hSw; (try dsimp only at hSw); go_simp; try with_reducible rfl
        try simp only [Act.put, List.setIfInBounds_toArray, List.set_cons_zero, List.set_cons_succ]
        refine wpAnyG_takeU (i := 3) (oi := { dst := some 55, op := Op.convert 3 22 (Operand.tmp 54), type := 22, pos := "ref.go:137", after := #[{ on := 2, ground := Ground.data }], guard := none }) (v := ?_) rfl (by kernel_rfl) (by kernel_rfl) (by kernel_rfl) (by decide) (fun _ _ _ h => h) (Or.inl ⟨by rfl, ?_⟩) (.inl (by assumption)) ?_
        rotate_left
        · intro w hSw; go_simp; try with_reducible rfl
        try simp only [Act.put, List.setIfInBounds_toArray, List.set_cons_zero, List.set_cons_succ]
        refine wpAnyG_takeU (i := 5) (oi := { dst := some 57, op := Op.fieldAddr 44 (Operand.tmp 5) 1, type := 0, pos := "ref.go:137", after := #[], guard := none }) (v := ?_) rfl (by kernel_rfl) (by kernel_rfl) (by kernel_rfl) (by decide) (fun _ _ _ h => h) (Or.inl ⟨by rfl, ?_⟩) (.inl (by assumption)) ?_
        rotate_left
        · intro w hSw; go_simp; try with_reducible rfl
        try simp only [Act.put, List.setIfInBounds_toArray, List.set_cons_zero, List.set_cons_succ]
        refine wpAnyG_takeM (i := 6) (oi := { dst := some 58, op := Op.load 3 (Operand.tmp 57), type := 3, pos := "ref.go:137", after := #[{ on := 5, ground := Ground.data }], guard := none }) (v := ?_) (ms := [7, 8, 12, 13]) rfl (by kernel_rfl) (by kernel_rfl) (by kernel_rfl) (by kernel_rfl) (by kernel_rfl) (fun _ _ _ h => h) (Or.inl ⟨by rfl, ?_⟩) (by assumption) ?_
        rotate_left
        · intro w hSw; (try dsimp only at hSw); go_simp; try with_reducible rfl
        try simp only [Act.put, List.setIfInBounds_toArray, List.set_cons_zero, List.set_cons_succ]
        refine wpAnyG_takeU (i := 7) (oi := { dst := some 59, op := Op.convert 3 22 (Operand.tmp 58), type := 22, pos := "ref.go:137", after := #[{ on := 6, ground := Ground.data }], guard := none }) (v := ?_) rfl (by kernel_rfl) (by kernel_rfl) (by kernel_rfl) (by decide) (fun _ _ _ h => h) (Or.inl ⟨by rfl, ?_⟩) (.inl (by assumption)) ?_
        rotate_left
        · intro w hSw; go_simp; try with_reducible rfl
        try simp only [Act.put, List.setIfInBounds_toArray, List.set_cons_zero, List.set_cons_succ]
        refine wpAnyG_takeU (i := 9) (oi := { dst := some 61, op := Op.fieldAddr 44 (Operand.tmp 5) 2, type := 0, pos := "ref.go:137", after := #[], guard := none }) (v := ?_) rfl (by kernel_rfl) (by kernel_rfl) (by kernel_rfl) (by decide) (fun _ _ _ h => h) (Or.inl ⟨by rfl, ?_⟩) (.inl (by assumption)) ?_
        rotate_left
        · intro w hSw; go_simp; try with_reducible rfl
        try simp only [Act.put, List.setIfInBounds_toArray, List.set_cons_zero, List.set_cons_succ]
        refine wpAnyG_takeM (i := 10) (oi := { dst := some 62, op := Op.load 2 (Operand.tmp 61), type := 2, pos := "ref.go:137", after := #[{ on := 9, ground := Ground.data }], guard := none }) (v := ?_) (ms := [11, 12, 13]) rfl (by kernel_rfl) (by kernel_rfl) (by kernel_rfl) (by kernel_rfl) (by kernel_rfl) (fun _ _ _ h => h) (Or.inl ⟨by rfl, ?_⟩) (by assumption) ?_
        rotate_left
        · intro w hSw; (try dsimp only at hSw); go_simp; try with_reducible rfl
        try simp only [Act.put, List.setIfInBounds_toArray, List.set_cons_zero, List.set_cons_succ]
        refine wpAnyG_takeU (i := 11) (oi := { dst := some 63, op := Op.convert 2 22 (Operand.tmp 62), type := 22, pos := "ref.go:137", after := #[{ on := 10, ground := Ground.data }], guard := none }) (v := ?_) rfl (by kernel_rfl) (by kernel_rfl) (by kernel_rfl) (by decide) (fun _ _ _ h => h) (Or.inl ⟨by rfl, ?_⟩) (.inl (by assumption)) ?_
        rotate_left
        · intro w hSw; go_simp; try with_reducible rfl
        try simp only [Act.put, List.setIfInBounds_toArray, List.set_cons_zero, List.set_cons_succ]
        refine wpAnyG_one (i := 4) (o := { dst := some 56, op := Op.call { callee := Callee.value (Operand.func 72), args := #[Operand.tmp 52, Operand.tmp 55, Operand.const (Value.int IntKind.i64 2)], argTypes := #[52, 22, 3] }, type := 52, pos := "ref.go:137", after := #[{ on := 0, ground := Ground.data }, { on := 3, ground := Ground.data }], guard := none }) (by kernel_rfl) rfl (fun K hK => ?_)
        go_simp
        go_at_call 72
        refine (put13_any w.heap.size _ _ y.fl 2 (by decide) FC.out.1 (by decide) (by have := HY.out.l; omega) _ HY.out.b.size HY.out.o).mono ?_
        rintro e wq ⟨u, rfl, hown, hg⟩
        have HYO := HY
        have HY := Lib.hid (HYO.out.grown hown hg (2) (Wire.be_length _ _))
        have HR := Lib.hid (HYO.out.row hg HR.out (by decide))
        have HRC := Lib.hid (HYO.out.row hg HRC.out (by decide))
        clear hown hg HYO
        have hHeld := (show (∀ j : Nat, wq.cell? ⟨gc, j, none⟩ = (#[.int .i64 y.fl, .int .i64 y.dy, .int .i64 y.va, .int .i64 y.st, .int .i64 y.ho, .int .u64 y.nx] : Array Value)[j]?) from fun j => cell_of_row wq gc j _ _ _ HRC.out)
        refine hK.out _ _ (.inl hHeld) ?_
        clear hK K
        try simp only [Act.put, List.setIfInBounds_toArray, List.set_cons_zero, List.set_cons_succ]
        refine wpAnyG_one (i := 8) (o := { dst := some 60, op := Op.call { callee := Callee.value (Operand.func 72), args := #[Operand.tmp 56, Operand.tmp 59, Operand.const (Value.int IntKind.i64 4)], argTypes := #[52, 22, 3] }, type := 52, pos := "ref.go:137", after := #[{ on := 4, ground := Ground.data }, { on := 7, ground := Ground.data }, { on := 4, ground := Ground.chain }], guard := none }) (by kernel_rfl) rfl (fun K hK => ?_)
        go_simp
        go_at_call 72
        refine (put13_any w.heap.size _ _ y.dy 4 (by decide) FC.out.2.1 (by decide) (by have := HY.out.l; omega) _ HY.out.b.size HY.out.o).mono ?_
        rintro e wq ⟨u, rfl, hown, hg⟩
        have HYO := HY
        have HY := Lib.hid (HYO.out.grown hown hg (4) (Wire.be_length _ _))
        have HR := Lib.hid (HYO.out.row hg HR.out (by decide))
        have HRC := Lib.hid (HYO.out.row hg HRC.out (by decide))
        clear hown hg HYO
        have hHeld := (show (∀ j : Nat, wq.cell? ⟨gc, j, none⟩ = (#[.int .i64 y.fl, .int .i64 y.dy, .int .i64 y.va, .int .i64 y.st, .int .i64 y.ho, .int .u64 y.nx] : Array Value)[j]?) from fun j => cell_of_row wq gc j _ _ _ HRC.out)
        refine hK.out _ _ (.inl hHeld) ?_
        clear hK K
        try simp only [Act.put, List.setIfInBounds_toArray, List.set_cons_zero, List.set_cons_succ]
        refine wpAnyG_one (i := 12) (o := { dst := some 64, op := Op.call { callee := Callee.value (Operand.func 72), args := #[Operand.tmp 60, Operand.tmp 63, Operand.const (Value.int IntKind.i64 8)], argTypes := #[52, 22, 3] }, type := 52, pos := "ref.go:137", after := #[{ on := 8, ground := Ground.data }, { on := 11, ground := Ground.data }, { on := 8, ground := Ground.chain }], guard := none }) (by kernel_rfl) rfl (fun K hK => ?_)
        go_simp
        go_at_call 72
        refine (put13_any w.heap.size _ _ y.va 8 (by decide) FC.out.2.2.1 (by decide) (by have := HY.out.l; omega) _ HY.out.b.size HY.out.o).mono ?_
        rintro e wq ⟨u, rfl, hown, hg⟩
        have HYO := HY
        have HY := Lib.hid (HYO.out.grown hown hg (8) (Wire.be_length _ _))
        have HR := Lib.hid (HYO.out.row hg HR.out (by decide))
        have HRC := Lib.hid (HYO.out.row hg HRC.out (by decide))
        clear hown hg HYO
        refine hK.out _ _ (.inr rfl) ?_
        clear hK K
        try simp only [Act.put, List.setIfInBounds_toArray, List.set_cons_zero, List.set_cons_succ]
        refine wpAnyG_takeU (i := 13) (oi := { dst := some 3, op := Op.assign (Operand.tmp 64), type := 52, pos := "ref.go:137", after := #[{ on := 12, ground := Ground.data }, { on := 12, ground := Ground.chain }, { on := 0, ground := Ground.phase }, { on := 1, ground := Ground.phase }, { on := 2, ground := Ground.phase }, { on := 3, ground := Ground.phase }, { on := 4, ground := Ground.phase }, { on := 5, ground := Ground.phase }, { on := 6, ground := Ground.phase }, { on := 7, ground := Ground.phase }, { on := 8, ground := Ground.phase }, { on := 9, ground := Ground.phase }, { on := 10, ground := Ground.phase }, { on := 11, ground := Ground.phase }, { on := 12, ground := Ground.phase }], guard := none }) (v := ?_) rfl (by kernel_rfl) (by kernel_rfl) (by kernel_rfl) (by decide) (fun _ _ _ h => h) (Or.inl ⟨by rfl, ?_⟩) (.inr rfl) ?_
        rotate_left
        · intro w hSw; go_simp; try with_reducible rfl
        try simp only [Act.put, List.setIfInBounds_toArray, List.set_cons_zero, List.set_cons_succ]
        refine wpAnyG_done (by kernel_rfl) ?_ _
        clear hHeld
        clear k1 k2 k3
        have k1 : IntKind.u8.wrap y.st = y.st := wrap_byte FC.out.2.2.2.1
        have k2 : IntKind.u64.wrap y.ho = y.ho := wrap_fit FC.out.2.2.2.2.1 (by decide)
        go_wp2_with fail
        refine wp_region_G (C := fun W => (∀ j : Nat, W.cell? ⟨gc, j, none⟩ = (#[.int .i64 y.fl, .int .i64 y.dy, .int .i64 y.va, .int .i64 y.st, .int .i64 y.ho, .int .u64 y.nx] : Array Value)[j]?)) (s0 := 12) (by kernel_rfl) ?_
        have HY := Lib.hid (HY.out.below (Below.refl _ _).drew)
        have HR := Lib.hid (row_drewT HR.out)
        have HRC := Lib.hid (row_drewT HRC.out)
        generalize wq.drew = wd at *
        have hHeld := (show (∀ j : Nat, wd.cell? ⟨gc, j, none⟩ = (#[.int .i64 y.fl, .int .i64 y.dy, .int .i64 y.va, .int .i64 y.st, .int .i64 y.ho, .int .u64 y.nx] : Array Value)[j]?) from fun j => cell_of_row wd gc j _ _ _ HRC.out)
        refine wpAnyG_takeU (i := 0) (oi := { dst := some 65, op := Op.move (Operand.tmp 3), type := 52, pos := "ref.go:138", after := #[], guard := none }) (v := ?_) rfl (by kernel_rfl) (by kernel_rfl) (by kernel_rfl) (by decide) (fun _ _ _ h => h) (Or.inl ⟨by rfl, ?_⟩) (.inl (by assumption)) ?_
        rotate_left
        · intro w hSw; go_simp; try with_reducible rfl
        try simp only [Act.put, List.setIfInBounds_toArray, List.set_cons_zero, List.set_cons_succ]
        refine wpAnyG_takeU (i := 1) (oi := { dst := some 66, op := Op.fieldAddr 44 (Operand.tmp 5) 3, type := 0, pos := "ref.go:138", after := #[], guard := none }) (v := ?_) rfl (by kernel_rfl) (by kernel_rfl) (by kernel_rfl) (by decide) (fun _ _ _ h => h) (Or.inl ⟨by rfl, ?_⟩) (.inl (by assumption)) ?_
        rotate_left
        · intro w hSw; go_simp; try with_reducible rfl
        try simp only [Act.put, List.setIfInBounds_toArray, List.set_cons_zero, List.set_cons_succ]
        refine wpAnyG_takeM (i := 2) (oi := { dst := some 67, op := Op.load 35 (Operand.tmp 66), type := 35, pos := "ref.go:138", after := #[{ on := 1, ground := Ground.data }], guard := none }) (v := ?_) (ms := [3, 4, 5, 9, 12, 13]) rfl (by kernel_rfl) (by kernel_rfl) (by kernel_rfl) (by kernel_rfl) (by kernel_rfl) (fun _ _ _ h => h) (Or.inl ⟨by rfl, ?_⟩) (by assumption) ?_
        rotate_left
        · intro w hSw; (try dsimp only at hSw); go_simp; try with_reducible rfl
        try simp only [Act.put, List.setIfInBounds_toArray, List.set_cons_zero, List.set_cons_succ]
        refine wpAnyG_takeU (i := 3) (oi := { dst := some 68, op := Op.convert 35 5 (Operand.tmp 67), type := 5, pos := "ref.go:138", after := #[{ on := 2, ground := Ground.data }], guard := none }) (v := ?_) rfl (by kernel_rfl) (by kernel_rfl) (by kernel_rfl) (by decide) (fun _ _ _ h => h) (Or.inl ⟨by rfl, ?_⟩) (.inl (by assumption)) ?_
        rotate_left
        · intro w hSw; go_simp; try with_reducible rfl
        try simp only [Act.put, List.setIfInBounds_toArray, List.set_cons_zero, List.set_cons_succ]
        refine wpAnyG_takeU (i := 6) (oi := { dst := some 71, op := Op.fieldAddr 44 (Operand.tmp 5) 4, type := 0, pos := "ref.go:138", after := #[], guard := none }) (v := ?_) rfl (by kernel_rfl) (by kernel_rfl) (by kernel_rfl) (by decide) (fun _ _ _ h => h) (Or.inl ⟨by rfl, ?_⟩) (.inl (by assumption)) ?_
        rotate_left
        · intro w hSw; go_simp; try with_reducible rfl
        try simp only [Act.put, List.setIfInBounds_toArray, List.set_cons_zero, List.set_cons_succ]
        refine wpAnyG_takeM (i := 7) (oi := { dst := some 72, op := Op.load 3 (Operand.tmp 71), type := 3, pos := "ref.go:138", after := #[{ on := 6, ground := Ground.data }], guard := none }) (v := ?_) (ms := [8, 9, 12, 13]) rfl (by kernel_rfl) (by kernel_rfl) (by kernel_rfl) (by kernel_rfl) (by kernel_rfl) (fun _ _ _ h => h) (Or.inl ⟨by rfl, ?_⟩) (by assumption) ?_
        rotate_left
        · intro w hSw; (try dsimp only at hSw); go_simp; try with_reducible rfl
        try simp only [Act.put, List.setIfInBounds_toArray, List.set_cons_zero, List.set_cons_succ]
        refine wpAnyG_takeU (i := 8) (oi := { dst := some 73, op := Op.convert 3 22 (Operand.tmp 72), type := 22, pos := "ref.go:138", after := #[{ on := 7, ground := Ground.data }], guard := none }) (v := ?_) rfl (by kernel_rfl) (by kernel_rfl) (by kernel_rfl) (by decide) (fun _ _ _ h => h) (Or.inl ⟨by rfl, ?_⟩) (.inl (by assumption)) ?_
        rotate_left
        · intro w hSw; go_simp; try with_reducible rfl
        try simp only [Act.put, List.setIfInBounds_toArray, List.set_cons_zero, List.set_cons_succ]
        refine wpAnyG_takeU (i := 10) (oi := { dst := some 75, op := Op.fieldAddr 44 (Operand.tmp 5) 5, type := 0, pos := "ref.go:138", after := #[], guard := none }) (v := ?_) rfl (by kernel_rfl) (by kernel_rfl) (by kernel_rfl) (by decide) (fun _ _ _ h => h) (Or.inl ⟨by rfl, ?_⟩) (.inl (by assumption)) ?_
        rotate_left
        · intro w hSw; go_simp; try with_reducible rfl
        try simp only [Act.put, List.setIfInBounds_toArray, List.set_cons_zero, List.set_cons_succ]
        refine wpAnyG_takeM (i := 11) (oi := { dst := some 76, op := Op.load 22 (Operand.tmp 75), type := 22, pos := "ref.go:138", after := #[{ on := 10, ground := Ground.data }], guard := none }) (v := ?_) (ms := [12, 13]) rfl (by kernel_rfl) (by kernel_rfl) (by kernel_rfl) (by kernel_rfl) (by kernel_rfl) (fun _ _ _ h => h) (Or.inl ⟨by rfl, ?_⟩) (by assumption) ?_
        rotate_left
        · intro w hSw; (try dsimp only at hSw); go_simp; try with_reducible rfl
        try simp only [Act.put, List.setIfInBounds_toArray, List.set_cons_zero, List.set_cons_succ]
        refine wpAnyG_one (i := 4) (o := { dst := some 69, op := Op.buildSlice 52 1 #[(0, Operand.tmp 68)], type := 52, pos := "ref.go:138", after := #[{ on := 3, ground := Ground.data }], guard := none }) (by kernel_rfl) rfl (fun K hK => ?_)
        go_simp
        have hbn := (Below.refl wd.heap.size wd).alloc (Nat.le_refl _) (.cells #[.int .u8 y.st] 5 (0, 0))
        have HY := Lib.hid (HY.out.below hbn)
        have HR := Lib.hid ((hbn.block _ (block_lt HR.out)).trans HR.out)
        have HRC := Lib.hid ((hbn.block _ (block_lt HRC.out)).trans HRC.out)
        have HLB := Lib.hid (bs_lits (W := wd.alloc (.cells #[.int .u8 y.st] 5 (0, 0))) (new_rowW _ _ _ rfl) [y.st] (by simp) (by intro z hz; simp only [List.mem_cons, List.not_mem_nil, or_false] at hz; rcases hz with rfl <;> first | exact FC.out.2.2.2.1) rfl)
        clear hbn
        have hHeld := (show (∀ j : Nat, (wd.alloc (.cells #[.int .u8 y.st] 5 (0, 0))).cell? ⟨gc, j, none⟩ = (#[.int .i64 y.fl, .int .i64 y.dy, .int .i64 y.va, .int .i64 y.st, .int .i64 y.ho, .int .u64 y.nx] : Array Value)[j]?) from fun j => cell_of_row _ gc j _ _ _ HRC.out)
        refine hK.out _ _ (.inl hHeld) ?_
        clear hK K
        try simp only [Act.put, List.setIfInBounds_toArray, List.set_cons_zero, List.set_cons_succ]
        generalize wd.alloc (.cells #[.int .u8 y.st] 5 (0, 0)) = wb at *
        refine wpAnyG_one (i := 5) (o := { dst := some 70, op := Op.call { callee := Callee.builtin Builtin.append, args := #[Operand.tmp 65, Operand.tmp 69], argTypes := #[52, 52] }, type := 52, pos := "ref.go:138", after := #[{ on := 0, ground := Ground.data }, { on := 4, ground := Ground.data }], guard := none }) (by kernel_rfl) rfl (fun K hK => ?_)
        refine step_append_bytesT rfl _ _ rfl w.heap.size _ _ _ rfl HY.out.o _ _ rfl HLB.out (by have := HY.out.l; have hl := lits_len [y.st]; simp only [List.length_cons, List.length_nil] at hl; omega) HY.out.b.size ?_
        intro u wq hown hg
        have HYO := HY
        have HY := Lib.hid (HYO.out.app hown hg (1) (lits_len [y.st]))
        have HR := Lib.hid (HYO.out.row hg HR.out (by decide))
        have HRC := Lib.hid (HYO.out.row hg HRC.out (by decide))
        clear hown hg HYO HLB
        have hHeld := (show (∀ j : Nat, wq.cell? ⟨gc, j, none⟩ = (#[.int .i64 y.fl, .int .i64 y.dy, .int .i64 y.va, .int .i64 y.st, .int .i64 y.ho, .int .u64 y.nx] : Array Value)[j]?) from fun j => cell_of_row wq gc j _ _ _ HRC.out)
        refine hK.out _ _ (.inl hHeld) ?_
        clear hK K
        try simp only [Act.put, List.setIfInBounds_toArray, List.set_cons_zero, List.set_cons_succ]
        refine wpAnyG_one (i := 9) (o := { dst := some 74, op := Op.call { callee := Callee.value (Operand.func 72), args := #[Operand.tmp 70, Operand.tmp 73, Operand.const (Value.int IntKind.i64 2)], argTypes := #[52, 22, 3] }, type := 52, pos := "ref.go:138", after := #[{ on := 5, ground := Ground.data }, { on := 8, ground := Ground.data }, { on := 5, ground := Ground.chain }], guard := none }) (by kernel_rfl) rfl (fun K hK => ?_)
        go_simp
        go_at_call 72
        refine (put13_any w.heap.size _ _ y.ho 2 (by decide) FC.out.2.2.2.2.1 (by decide) (by have := HY.out.l; omega) _ HY.out.b.size HY.out.o).mono ?_
        rintro e wq ⟨u, rfl, hown, hg⟩
        have HYO := HY
        have HY := Lib.hid (HYO.out.grown hown hg (2) (Wire.be_length _ _))
        have HR := Lib.hid (HYO.out.row hg HR.out (by decide))
        have HRC := Lib.hid (HYO.out.row hg HRC.out (by decide))
        clear hown hg HYO
        have hHeld := (show (∀ j : Nat, wq.cell? ⟨gc, j, none⟩ = (#[.int .i64 y.fl, .int .i64 y.dy, .int .i64 y.va, .int .i64 y.st, .int .i64 y.ho, .int .u64 y.nx] : Array Value)[j]?) from fun j => cell_of_row wq gc j _ _ _ HRC.out)
        refine hK.out _ _ (.inl hHeld) ?_
        clear hK K
        try simp only [Act.put, List.setIfInBounds_toArray, List.set_cons_zero, List.set_cons_succ]
        refine wpAnyG_one (i := 12) (o := { dst := some 77, op := Op.call { callee := Callee.value (Operand.func 72), args := #[Operand.tmp 74, Operand.tmp 76, Operand.const (Value.int IntKind.i64 8)], argTypes := #[52, 22, 3] }, type := 52, pos := "ref.go:138", after := #[{ on := 9, ground := Ground.data }, { on := 11, ground := Ground.data }, { on := 9, ground := Ground.chain }], guard := none }) (by kernel_rfl) rfl (fun K hK => ?_)
        go_simp
        go_at_call 72
        refine (put13_any w.heap.size _ _ y.nx 8 (by decide) FC.out.2.2.2.2.2 (by decide) (by have := HY.out.l; omega) _ HY.out.b.size HY.out.o).mono ?_
        rintro e wq ⟨u, rfl, hown, hg⟩
        have HYO := HY
        have HY := Lib.hid (HYO.out.grown hown hg (8) (Wire.be_length _ _))
        have HR := Lib.hid (HYO.out.row hg HR.out (by decide))
        have HRC := Lib.hid (HYO.out.row hg HRC.out (by decide))
        clear hown hg HYO
        refine hK.out _ _ (.inr rfl) ?_
        clear hK K
        try simp only [Act.put, List.setIfInBounds_toArray, List.set_cons_zero, List.set_cons_succ]
        refine wpAnyG_takeU (i := 13) (oi := { dst := some 3, op := Op.assign (Operand.tmp 77), type := 52, pos := "ref.go:138", after := #[{ on := 12, ground := Ground.data }, { on := 12, ground := Ground.chain }, { on := 0, ground := Ground.phase }, { on := 1, ground := Ground.phase }, { on := 2, ground := Ground.phase }, { on := 3, ground := Ground.phase }, { on := 4, ground := Ground.phase }, { on := 5, ground := Ground.phase }, { on := 6, ground := Ground.phase }, { on := 7, ground := Ground.phase }, { on := 8, ground := Ground.phase }, { on := 9, ground := Ground.phase }, { on := 10, ground := Ground.phase }, { on := 11, ground := Ground.phase }, { on := 12, ground := Ground.phase }], guard := none }) (v := ?_) rfl (by kernel_rfl) (by kernel_rfl) (by kernel_rfl) (by decide) (fun _ _ _ h => h) (Or.inl ⟨by rfl, ?_⟩) (.inr rfl) ?_
        rotate_left
        · intro w hSw; go_simp; try with_reducible rfl
        try simp only [Act.put, List.setIfInBounds_toArray, List.set_cons_zero, List.set_cons_succ]
        refine wpAnyG_done (by kernel_rfl) ?_ _
        clear hHeld
        clear k1 k2 HRC
        go_wp2_with fail
        go_roundw
        case rel => exact ⟨j + 1, by omega, by go_num, HY.out.as (by rw [Tkt.take_snocG HX.out, List.flatMap_append]; simp [Tkt.encC, List.append_assoc]) (by omega), HR.out⟩
        case measure => simp [intOf]; omega
      · have hjn : j = c.n := by omega
        subst hjn
        have hlen : t.cs.take c.n = t.cs := List.take_of_length_le (by have := HCN.out; have := HXN.out; have := HHN.out; omega)
        rw [hlen] at HY
        clear hlen
        have kxn : IntKind.u8.wrap (x.n : Int) = (x.n : Int) := wrap_byte (fit_len HXN.out (by have := HML.out; omega))
        have HFX : Hid (Tkt.fitN (x.n : Int) 256) := Lib.hid (fit_len HXN.out (by have := HML.out; omega))
        have hcc := fun j => cell_of_row wr w.heap.size j _ _ _ HR.out
        have HO1 := Lib.hid (own_below HY.out.o ((Below.refl wr.heap.size wr).alloc (Nat.le_refl _) (.cells #[.int .u8 (x.n : Int)] 5 (0, 0))))
        have HB1 := Lib.hid (bs_lits (W := wr.alloc (.cells #[.int .u8 (x.n : Int)] 5 (0, 0))) (new_rowW wr (.cells #[.int .u8 (x.n : Int)] 5 (0, 0)) _ rfl) [(x.n : Int)] (by simp) (by intro z hz; simp only [List.mem_cons, List.not_mem_nil, or_false] at hz; rcases hz with rfl <;> first | exact HFX.out) rfl)
        go_wp2_with (at_builtin; (refine wpList_append_bytes rfl _ _ rfl w.heap.size _ _ _ rfl HO1.out _ _ rfl HB1.out (by have := HY.out.l; have hl := lits_len [(x.n : Int)]; simp only [List.length_cons, List.length_nil] at hl; omega) (by have := HY.out.b.size; simp; omega) ?_); intro u2 wq hown hg hn1 hat1; (have HYA := Lib.hid (HY.out.below ((Below.refl wr.heap.size wr).alloc (Nat.le_refl _) (.cells #[.int .u8 (x.n : Int)] 5 (0, 0))))); (have HR := Lib.hid (HYA.out.row hg (row_after HR.out) (by decide))); (have HY := Lib.hid (HYA.out.app hown hg (1) (lits_len [(x.n : Int)]))); (have HY : Hid (YW w wq u2 ((Tkt.encH t ++ Wire.be t.cs.length 1 ++ t.cs.flatMap Tkt.encC) ++ Wire.be t.ts.length 1) (152)) := Lib.hid (HY.out.as (by simp [Tkt.encH, HCN.out, HXN.out, HHN.out, List.append_assoc]) (by omega))); clear hown hg hn1 hat1 HYA HO1 HB1 kxn hcc)
        go_loopw [3, 6] (fun bv i wr => ∃ (j : Nat), j ≤ x.n ∧ i = .int .i64 j ∧ YW w wr bv ((Tkt.encH t ++ Wire.be t.cs.length 1 ++ t.cs.flatMap Tkt.encC) ++ Wire.be t.ts.length 1 ++ (t.ts.take j).flatMap Tkt.encX) (152 + 9 * j) ∧ wr.heap[w.heap.size]? = some (.cells #[.int .u64 t.num, .string t.loc, .int .i64 t.iss, .slice c.p c.n c.c, .slice x.p x.n x.c, .int .u64 t.prev, .int .u64 t.org, .int .u64 t.fst, .int .i64 t.vou, .int .i64 t.posts, .slice h.p h.n h.c] 27 (0, 0))) (fun _ i _ => x.n - (intOf i).toNat)
        case atStart => exact ⟨0, Nat.zero_le _, rfl, HY.out.as (by simp) (by omega), HR.out⟩
        case round =>
          obtain ⟨j, hj, rfl, hy, hr⟩ := hrel
          have HY := Lib.hid hy
          have HR := Lib.hid hr
          clear hy hr
          have hnb : x.n ≤ 4 := by have := HML.out; have := HCN.out; have := HXN.out; have := HHN.out; omega
          by_cases hlt : j < x.n
          · obtain ⟨y, hy⟩ : ∃ y, t.ts[j]? = some y := ⟨_, List.getElem?_eq_getElem (by have := HXN.out; omega)⟩
            have HX := Lib.hid hy
            have FC := Lib.hid (FT.out.ts y (List.mem_of_getElem? hy))
            obtain ⟨eb, ef, hp, -, -⟩ := (HTS.out.below HY.out.b).ts.at hy
            have HXP := Lib.hid hp
            clear hp hy
            have hcs : wr.cell? ⟨w.heap.size, 4, none⟩ = some (.slice (some ⟨eb, ef, none⟩) x.n x.c) := by rw [← HXP.out]; exact cell_of_row wr w.heap.size 4 _ _ _ HR.out
            go_upto_region 14 with fail
            clear hcs
            have k1 : IntKind.u8.wrap y.cd = y.cd := wrap_byte FC.out.1
            have k2 : IntKind.u64.wrap y.am = y.am := wrap_fit FC.out.2 (by decide)
            refine wp_region_G (C := fun W => W.cell? ⟨eb, ef + j * 2, none⟩ = some (.int .i64 y.cd) ∧ W.cell? ⟨eb, ef + j * 2 + 1, none⟩ = some (.int .i64 y.am) ∧ W.cell? ⟨w.heap.size, 4, none⟩ = some (.slice (some ⟨eb, ef, none⟩) x.n x.c)) (s0 := 17) (by kernel_rfl) ?_
            have HY := Lib.hid (HY.out.below (Below.refl _ _).drew)
            have HR := Lib.hid (row_drewT HR.out)
            generalize wr.drew = wd at *
            have hHeld := (show wd.cell? ⟨eb, ef + j * 2, none⟩ = some (.int .i64 y.cd) ∧ wd.cell? ⟨eb, ef + j * 2 + 1, none⟩ = some (.int .i64 y.am) ∧ wd.cell? ⟨w.heap.size, 4, none⟩ = some (.slice (some ⟨eb, ef, none⟩) x.n x.c) from ⟨(tx_at HTS.out HY.out.b HX.out HXP.out).1, (tx_at HTS.out HY.out.b HX.out HXP.out).2, (by rw [← HXP.out]; exact cell_of_row _ w.heap.size 4 _ _ _ HR.out)⟩)
            refine wpAnyG_takeU (i := 0) (oi := { dst := some 92, op := Op.move (Operand.tmp 3), type := 52, pos := "ref.go:142", after := #[], guard := none }) (v := ?_) rfl (by kernel_rfl) (by kernel_rfl) (by kernel_rfl) (by decide) (fun _ _ _ h => h) (Or.inl ⟨by rfl, ?_⟩) (.inl (by assumption)) ?_
            rotate_left
            · intro w hSw; go_simp; try with_reducible rfl
            try simp only [Act.put, List.setIfInBounds_toArray, List.set_cons_zero, List.set_cons_succ]
            refine wpAnyG_takeU (i := 1) (oi := { dst := some 93, op := Op.fieldAddr 27 (Operand.tmp 1) 4, type := 0, pos := "ref.go:142", after := #[], guard := none }) (v := ?_) rfl (by kernel_rfl) (by kernel_rfl) (by kernel_rfl) (by decide) (fun _ _ _ h => h) (Or.inl ⟨by rfl, ?_⟩) (.inl (by assumption)) ?_
            rotate_left
            · intro w hSw; go_simp; try with_reducible rfl
            try simp only [Act.put, List.setIfInBounds_toArray, List.set_cons_zero, List.set_cons_succ]
            refine wpAnyG_takeM (i := 2) (oi := { dst := some 94, op := Op.load 24 (Operand.tmp 93), type := 24, pos := "ref.go:142", after := #[{ on := 1, ground := Ground.data }], guard := none }) (v := ?_) (ms := [4, 5, 6, 7, 8, 9, 17, 18]) rfl (by kernel_rfl) (by kernel_rfl) (by kernel_rfl) (by kernel_rfl) (by kernel_rfl) (fun _ _ _ h => h) (Or.inl ⟨by rfl, ?_⟩) (by assumption) ?_
            rotate_left
            · intro w hSw; (try dsimp only at hSw); go_simp; try with_reducible rfl
            try simp only [Act.put, List.setIfInBounds_toArray, List.set_cons_zero, List.set_cons_succ]
            refine wpAnyG_takeU (i := 3) (oi := { dst := some 95, op := Op.move (Operand.tmp 6), type := 3, pos := "ref.go:142", after := #[], guard := none }) (v := ?_) rfl (by kernel_rfl) (by kernel_rfl) (by kernel_rfl) (by decide) (fun _ _ _ h => h) (Or.inl ⟨by rfl, ?_⟩) (.inl (by assumption)) ?_
            rotate_left
            · intro w hSw; go_simp; try with_reducible rfl
            try simp only [Act.put, List.setIfInBounds_toArray, List.set_cons_zero, List.set_cons_succ]
            refine wpAnyG_takeU (i := 4) (oi := { dst := some 96, op := Op.indexAddr 24 (Operand.tmp 94) (Operand.tmp 95), type := 0, pos := "ref.go:142", after := #[{ on := 2, ground := Ground.data }, { on := 3, ground := Ground.data }], guard := none }) (v := ?_) rfl (by kernel_rfl) (by kernel_rfl) (by kernel_rfl) (by decide) (fun _ _ _ h => h) (Or.inl ⟨by rfl, ?_⟩) (.inl (by assumption)) ?_
            rotate_left
            · intro w hSw; go_simp; try with_reducible rfl
            try simp only [Act.put, List.setIfInBounds_toArray, List.set_cons_zero, List.set_cons_succ]
            refine wpAnyG_takeU (i := 5) (oi := { dst := some 97, op := Op.fieldAddr 48 (Operand.tmp 96) 0, type := 0, pos := "ref.go:142", after := #[{ on := 4, ground := Ground.data }], guard := none }) (v := ?_) rfl (by kernel_rfl) (by kernel_rfl) (by kernel_rfl) (by decide) (fun _ _ _ h => h) (Or.inl ⟨by rfl, ?_⟩) (.inl (by assumption)) ?_
            rotate_left
            · intro w hSw; go_simp; try with_reducible rfl
            try simp only [Act.put, List.setIfInBounds_toArray, List.set_cons_zero, List.set_cons_succ]
            refine wpAnyG_takeM (i := 6) (oi := { dst := some 98, op := Op.load 3 (Operand.tmp 97), type := 3, pos := "ref.go:142", after := #[{ on := 5, ground := Ground.data }], guard := none }) (v := ?_) (ms := [7, 8, 9, 17, 18]) rfl (by kernel_rfl) (by kernel_rfl) (by kernel_rfl) (by kernel_rfl) (by kernel_rfl) (fun _ _ _ h => h) (Or.inl ⟨by rfl, ?_⟩) (by assumption) ?_
            rotate_left
            · intro w hSw; (try dsimp only at hSw); go_simp; try with_reducible rfl
            try simp only [Act.put, List.setIfInBounds_toArray, List.set_cons_zero, List.set_cons_succ]
            refine wpAnyG_takeU (i := 7) (oi := { dst := some 99, op := Op.convert 3 5 (Operand.tmp 98), type := 5, pos := "ref.go:142", after := #[{ on := 6, ground := Ground.data }], guard := none }) (v := ?_) rfl (by kernel_rfl) (by kernel_rfl) (by kernel_rfl) (by decide) (fun _ _ _ h => h) (Or.inl ⟨by rfl, ?_⟩) (.inl (by assumption)) ?_
            rotate_left
            · intro w hSw; go_simp; try with_reducible rfl
            try simp only [Act.put, List.setIfInBounds_toArray, List.set_cons_zero, List.set_cons_succ]
            refine wpAnyG_takeU (i := 10) (oi := { dst := some 102, op := Op.fieldAddr 27 (Operand.tmp 1) 4, type := 0, pos := "ref.go:142", after := #[], guard := none }) (v := ?_) rfl (by kernel_rfl) (by kernel_rfl) (by kernel_rfl) (by decide) (fun _ _ _ h => h) (Or.inl ⟨by rfl, ?_⟩) (.inl (by assumption)) ?_
            rotate_left
            · intro w hSw; go_simp; try with_reducible rfl
            try simp only [Act.put, List.setIfInBounds_toArray, List.set_cons_zero, List.set_cons_succ]
            refine wpAnyG_takeM (i := 11) (oi := { dst := some 103, op := Op.load 24 (Operand.tmp 102), type := 24, pos := "ref.go:142", after := #[{ on := 10, ground := Ground.data }], guard := none }) (v := ?_) (ms := [13, 14, 15, 16, 17, 18]) rfl (by kernel_rfl) (by kernel_rfl) (by kernel_rfl) (by kernel_rfl) (by kernel_rfl) (fun _ _ _ h => h) (Or.inl ⟨by rfl, ?_⟩) (by assumption) ?_
            rotate_left
            · intro w hSw; (try dsimp only at hSw); go_simp; try with_reducible rfl
            try simp only [Act.put, List.setIfInBounds_toArray, List.set_cons_zero, List.set_cons_succ]
            refine wpAnyG_takeU (i := 12) (oi := { dst := some 104, op := Op.move (Operand.tmp 6), type := 3, pos := "ref.go:142", after := #[], guard := none }) (v := ?_) rfl (by kernel_rfl) (by kernel_rfl) (by kernel_rfl) (by decide) (fun _ _ _ h => h) (Or.inl ⟨by rfl, ?_⟩) (.inl (by assumption)) ?_
            rotate_left
            · intro w hSw; go_simp; try with_reducible rfl
            try simp only [Act.put, List.setIfInBounds_toArray, List.set_cons_zero, List.set_cons_succ]
            refine wpAnyG_takeU (i := 13) (oi := { dst := some 105, op := Op.indexAddr 24 (Operand.tmp 103) (Operand.tmp 104), type := 0, pos := "ref.go:142", after := #[{ on := 11, ground := Ground.data }, { on := 12, ground := Ground.data }], guard := none }) (v := ?_) rfl (by kernel_rfl) (by kernel_rfl) (by kernel_rfl) (by decide) (fun _ _ _ h => h) (Or.inl ⟨by rfl, ?_⟩) (.inl (by assumption)) ?_
            rotate_left
            · intro w hSw; go_simp; try with_reducible rfl
            try simp only [Act.put, List.setIfInBounds_toArray, List.set_cons_zero, List.set_cons_succ]
            refine wpAnyG_takeU (i := 14) (oi := { dst := some 106, op := Op.fieldAddr 48 (Operand.tmp 105) 1, type := 0, pos := "ref.go:142", after := #[{ on := 13, ground := Ground.data }], guard := none }) (v := ?_) rfl (by kernel_rfl) (by kernel_rfl) (by kernel_rfl) (by decide) (fun _ _ _ h => h) (Or.inl ⟨by rfl, ?_⟩) (.inl (by assumption)) ?_
            rotate_left
            · intro w hSw; go_simp; try with_reducible rfl
            try simp only [Act.put, List.setIfInBounds_toArray, List.set_cons_zero, List.set_cons_succ]
            refine wpAnyG_takeM (i := 15) (oi := { dst := some 107, op := Op.load 2 (Operand.tmp 106), type := 2, pos := "ref.go:142", after := #[{ on := 14, ground := Ground.data }], guard := none }) (v := ?_) (ms := [16, 17, 18]) rfl (by kernel_rfl) (by kernel_rfl) (by kernel_rfl) (by kernel_rfl) (by kernel_rfl) (fun _ _ _ h => h) (Or.inl ⟨by rfl, ?_⟩) (by assumption) ?_
            rotate_left
            · intro w hSw; (try dsimp only at hSw); go_simp; try with_reducible rfl
            try simp only [Act.put, List.setIfInBounds_toArray, List.set_cons_zero, List.set_cons_succ]
            refine wpAnyG_takeU (i := 16) (oi := { dst := some 108, op := Op.convert 2 22 (Operand.tmp 107), type := 22, pos := "ref.go:142", after := #[{ on := 15, ground := Ground.data }], guard := none }) (v := ?_) rfl (by kernel_rfl) (by kernel_rfl) (by kernel_rfl) (by decide) (fun _ _ _ h => h) (Or.inl ⟨by rfl, ?_⟩) (.inl (by assumption)) ?_
            rotate_left
            · intro w hSw; go_simp; try with_reducible rfl
            try simp only [Act.put, List.setIfInBounds_toArray, List.set_cons_zero, List.set_cons_succ]
            refine wpAnyG_one (i := 8) (o := { dst := some 100, op := Op.buildSlice 52 1 #[(0, Operand.tmp 99)], type := 52, pos := "ref.go:142", after := #[{ on := 7, ground := Ground.data }], guard := none }) (by kernel_rfl) rfl (fun K hK => ?_)
            go_simp
            have hbn := (Below.refl wd.heap.size wd).alloc (Nat.le_refl _) (.cells #[.int .u8 y.cd] 5 (0, 0))
            have HY := Lib.hid (HY.out.below hbn)
            have HR := Lib.hid ((hbn.block _ (block_lt HR.out)).trans HR.out)
            have HLB := Lib.hid (bs_lits (W := wd.alloc (.cells #[.int .u8 y.cd] 5 (0, 0))) (new_rowW _ _ _ rfl) [y.cd] (by simp) (by intro z hz; simp only [List.mem_cons, List.not_mem_nil, or_false] at hz; rcases hz with rfl <;> first | exact FC.out.1) rfl)
            clear hbn
            have hHeld := (show (wd.alloc (.cells #[.int .u8 y.cd] 5 (0, 0))).cell? ⟨eb, ef + j * 2, none⟩ = some (.int .i64 y.cd) ∧ (wd.alloc (.cells #[.int .u8 y.cd] 5 (0, 0))).cell? ⟨eb, ef + j * 2 + 1, none⟩ = some (.int .i64 y.am) ∧ (wd.alloc (.cells #[.int .u8 y.cd] 5 (0, 0))).cell? ⟨w.heap.size, 4, none⟩ = some (.slice (some ⟨eb, ef, none⟩) x.n x.c) from ⟨(tx_at HTS.out HY.out.b HX.out HXP.out).1, (tx_at HTS.out HY.out.b HX.out HXP.out).2, (by rw [← HXP.out]; exact cell_of_row _ w.heap.size 4 _ _ _ HR.out)⟩)
            refine hK.out _ _ (.inl hHeld) ?_
            clear hK K
            try simp only [Act.put, List.setIfInBounds_toArray, List.set_cons_zero, List.set_cons_succ]
            generalize wd.alloc (.cells #[.int .u8 y.cd] 5 (0, 0)) = wb at *
            refine wpAnyG_one (i := 9) (o := { dst := some 101, op := Op.call { callee := Callee.builtin Builtin.append, args := #[Operand.tmp 92, Operand.tmp 100], argTypes := #[52, 52] }, type := 52, pos := "ref.go:142", after := #[{ on := 0, ground := Ground.data }, { on := 8, ground := Ground.data }], guard := none }) (by kernel_rfl) rfl (fun K hK => ?_)
            refine step_append_bytesT rfl _ _ rfl w.heap.size _ _ _ rfl HY.out.o _ _ rfl HLB.out (by have := HY.out.l; have hl := lits_len [y.cd]; simp only [List.length_cons, List.length_nil] at hl; omega) HY.out.b.size ?_
            intro u wq hown hg
            have HYO := HY
            have HY := Lib.hid (HYO.out.app hown hg (1) (lits_len [y.cd]))
            have HR := Lib.hid (HYO.out.row hg HR.out (by decide))
            clear hown hg HYO HLB
            have hHeld := (show wq.cell? ⟨eb, ef + j * 2, none⟩ = some (.int .i64 y.cd) ∧ wq.cell? ⟨eb, ef + j * 2 + 1, none⟩ = some (.int .i64 y.am) ∧ wq.cell? ⟨w.heap.size, 4, none⟩ = some (.slice (some ⟨eb, ef, none⟩) x.n x.c) from ⟨(tx_at HTS.out HY.out.b HX.out HXP.out).1, (tx_at HTS.out HY.out.b HX.out HXP.out).2, (by rw [← HXP.out]; exact cell_of_row _ w.heap.size 4 _ _ _ HR.out)⟩)
            refine hK.out _ _ (.inl hHeld) ?_
            clear hK K
            try simp only [Act.put, List.setIfInBounds_toArray, List.set_cons_zero, List.set_cons_succ]
            refine wpAnyG_one (i := 17) (o := { dst := some 109, op := Op.call { callee := Callee.value (Operand.func 72), args := #[Operand.tmp 101, Operand.tmp 108, Operand.const (Value.int IntKind.i64 8)], argTypes := #[52, 22, 3] }, type := 52, pos := "ref.go:142", after := #[{ on := 9, ground := Ground.data }, { on := 16, ground := Ground.data }, { on := 9, ground := Ground.chain }], guard := none }) (by kernel_rfl) rfl (fun K hK => ?_)
            go_simp
            go_at_call 72
            refine (put13_any w.heap.size _ _ y.am 8 (by decide) FC.out.2 (by decide) (by have := HY.out.l; omega) _ HY.out.b.size HY.out.o).mono ?_
            rintro e wq ⟨u, rfl, hown, hg⟩
            have HYO := HY
            have HY := Lib.hid (HYO.out.grown hown hg (8) (Wire.be_length _ _))
            have HR := Lib.hid (HYO.out.row hg HR.out (by decide))
            clear hown hg HYO
            refine hK.out _ _ (.inr rfl) ?_
            clear hK K
            try simp only [Act.put, List.setIfInBounds_toArray, List.set_cons_zero, List.set_cons_succ]
            refine wpAnyG_takeU (i := 18) (oi := { dst := some 3, op := Op.assign (Operand.tmp 109), type := 52, pos := "ref.go:142", after := #[{ on := 17, ground := Ground.data }, { on := 17, ground := Ground.chain }, { on := 0, ground := Ground.phase }, { on := 1, ground := Ground.phase }, { on := 2, ground := Ground.phase }, { on := 3, ground := Ground.phase }, { on := 4, ground := Ground.phase }, { on := 5, ground := Ground.phase }, { on := 6, ground := Ground.phase }, { on := 7, ground := Ground.phase }, { on := 8, ground := Ground.phase }, { on := 9, ground := Ground.phase }, { on := 10, ground := Ground.phase }, { on := 11, ground := Ground.phase }, { on := 12, ground := Ground.phase }, { on := 13, ground := Ground.phase }, { on := 14, ground := Ground.phase }, { on := 15, ground := Ground.phase }, { on := 16, ground := Ground.phase }, { on := 17, ground := Ground.phase }], guard := none }) (v := ?_) rfl (by kernel_rfl) (by kernel_rfl) (by kernel_rfl) (by decide) (fun _ _ _ h => h) (Or.inl ⟨by rfl, ?_⟩) (.inr rfl) ?_
            rotate_left
            · intro w hSw; go_simp; try with_reducible rfl
            try simp only [Act.put, List.setIfInBounds_toArray, List.set_cons_zero, List.set_cons_succ]
            refine wpAnyG_done (by kernel_rfl) ?_ _
            clear hHeld
            clear k1 k2
            go_wp2_with fail
            go_roundw
            case rel => exact ⟨j + 1, by omega, by go_num, HY.out.as (by rw [Tkt.take_snocG HX.out, List.flatMap_append]; simp [Tkt.encX, List.append_assoc]) (by omega), HR.out⟩
            case measure => simp [intOf]; omega
          · have hjn : j = x.n := by omega
            subst hjn
            have hlen : t.ts.take x.n = t.ts := List.take_of_length_le (by have := HCN.out; have := HXN.out; have := HHN.out; omega)
            rw [hlen] at HY
            clear hlen
            have khn : IntKind.u8.wrap (h.n : Int) = (h.n : Int) := wrap_byte (fit_len HHN.out (by have := HML.out; omega))
            have HFH : Hid (Tkt.fitN (h.n : Int) 256) := Lib.hid (fit_len HHN.out (by have := HML.out; omega))
            have kpo : IntKind.u8.wrap t.posts = t.posts := wrap_byte FT.out.posts
            have hcc := fun j => cell_of_row wr w.heap.size j _ _ _ HR.out
            have HO1 := Lib.hid (own_below HY.out.o ((Below.refl wr.heap.size wr).alloc (Nat.le_refl _) (.cells #[.int .u8 t.posts, .int .u8 (h.n : Int)] 5 (0, 0))))
            have HB1 := Lib.hid (bs_lits (W := wr.alloc (.cells #[.int .u8 t.posts, .int .u8 (h.n : Int)] 5 (0, 0))) (new_rowW wr (.cells #[.int .u8 t.posts, .int .u8 (h.n : Int)] 5 (0, 0)) _ rfl) [t.posts, (h.n : Int)] (by simp) (by intro z hz; simp only [List.mem_cons, List.not_mem_nil, or_false] at hz; rcases hz with rfl | rfl <;> first | exact FT.out.posts | exact HFH.out) rfl)
            go_wp2_with (at_builtin; (refine wpList_append_bytes rfl _ _ rfl w.heap.size _ _ _ rfl HO1.out _ _ rfl HB1.out (by have := HY.out.l; have hl := lits_len [t.posts, (h.n : Int)]; simp only [List.length_cons, List.length_nil] at hl; omega) (by have := HY.out.b.size; simp; omega) ?_); intro u2 wq hown hg hn1 hat1; (have HYA := Lib.hid (HY.out.below ((Below.refl wr.heap.size wr).alloc (Nat.le_refl _) (.cells #[.int .u8 t.posts, .int .u8 (h.n : Int)] 5 (0, 0))))); (have HR := Lib.hid (HYA.out.row hg (row_after HR.out) (by decide))); (have HY := Lib.hid (HYA.out.app hown hg (2) (lits_len [t.posts, (h.n : Int)]))); (have HY : Hid (YW w wq u2 (((Tkt.encH t ++ Wire.be t.cs.length 1 ++ t.cs.flatMap Tkt.encC) ++ Wire.be t.ts.length 1 ++ t.ts.flatMap Tkt.encX) ++ (Wire.be t.posts.toNat 1 ++ Wire.be t.hs.length 1)) (190)) := Lib.hid (HY.out.as (by simp [Tkt.encH, HCN.out, HXN.out, HHN.out, List.append_assoc]) (by omega))); clear hown hg hn1 hat1 HYA HO1 HB1 khn kpo hcc)
            go_loopw [3, 7] (fun bv i wr => ∃ (j : Nat), j ≤ h.n ∧ i = .int .i64 j ∧ YW w wr bv (((Tkt.encH t ++ Wire.be t.cs.length 1 ++ t.cs.flatMap Tkt.encC) ++ Wire.be t.ts.length 1 ++ t.ts.flatMap Tkt.encX) ++ (Wire.be t.posts.toNat 1 ++ Wire.be t.hs.length 1) ++ (t.hs.take j).flatMap Tkt.encE) (190 + 7 * j) ∧ wr.heap[w.heap.size]? = some (.cells #[.int .u64 t.num, .string t.loc, .int .i64 t.iss, .slice c.p c.n c.c, .slice x.p x.n x.c, .int .u64 t.prev, .int .u64 t.org, .int .u64 t.fst, .int .i64 t.vou, .int .i64 t.posts, .slice h.p h.n h.c] 27 (0, 0))) (fun _ i _ => h.n - (intOf i).toNat)
            case atStart => exact ⟨0, Nat.zero_le _, rfl, HY.out.as (by simp) (by omega), HR.out⟩
            case round =>
              obtain ⟨j, hj, rfl, hy, hr⟩ := hrel
              have HY := Lib.hid hy
              have HR := Lib.hid hr
              clear hy hr
              have hnb : h.n ≤ 60 := by have := HML.out; have := HCN.out; have := HXN.out; have := HHN.out; omega
              by_cases hlt : j < h.n
              · obtain ⟨y, hy⟩ : ∃ y, t.hs[j]? = some y := ⟨_, List.getElem?_eq_getElem (by have := HCN.out; have := HXN.out; have := HHN.out; omega)⟩
                have HX := Lib.hid hy
                have FC := Lib.hid (FT.out.hs y (List.mem_of_getElem? hy))
                obtain ⟨eb, ef, hp, -, hr⟩ := (HTS.out.below HY.out.b).hs.at hy
                obtain ⟨g1, g2⟩ := loL_of hr (Evt.cells_length y)
                have g3 : y.cells = [.int .i64 y.dy, .int .i64 y.co, .int .i64 y.fr, .int .i64 y.to] := rfl
                rw [g3] at g1
                have hcs : wr.cell? ⟨w.heap.size, 10, none⟩ = some (.slice (some ⟨eb, ef, none⟩) h.n h.c) := by rw [← hp]; exact cell_of_row wr w.heap.size 10 _ _ _ HR.out
                clear g3 hr hy hp
                have tc := there_newT (w := wr) (zs := [.int .i64 0, .int .i64 0, .int .i64 0, .int .i64 0]) (e := 46) (n := 4) rfl
                have c6n : ([.int .i64 y.dy, .int .i64 y.co, .int .i64 y.fr, .int .i64 y.to] : List Value).length = 4 := rfl
                have c6c : ([.int .i64 y.dy, .int .i64 y.co, .int .i64 y.fr, .int .i64 y.to] : List Value).all (·.oneCell') = true := rfl
                go_upto_region 20 with fail
                have HP := Lib.hid (putRec (W := wr) (e := 46) (zs := [.int .i64 0, .int .i64 0, .int .i64 0, .int .i64 0]) (cs := [.int .i64 y.dy, .int .i64 y.co, .int .i64 y.fr, .int .i64 y.to]) rfl)
                have HY := Lib.hid (HY.out.below HP.out.2)
                have HR := Lib.hid ((HP.out.2.block _ (block_lt HR.out)).trans HR.out)
                have HRC := Lib.hid HP.out.1
                clear HP tc c6n c6c g1 g2 hcs
                generalize (wr.alloc (.cells #[.int .i64 0, .int .i64 0, .int .i64 0, .int .i64 0] 46 (0, 0))).setCells wr.heap.size 0 [.int .i64 y.dy, .int .i64 y.co, .int .i64 y.fr, .int .i64 y.to] = w4 at *
                generalize wr.heap.size = gc at *
                have k1 : IntKind.u64.wrap y.dy = y.dy := wrap_fit FC.out.1 (by decide)
                have k2 : IntKind.u8.wrap y.co = y.co := wrap_byte FC.out.2.1
                have k3 : IntKind.u8.wrap y.fr = y.fr := wrap_byte FC.out.2.2.1
                have k4 : IntKind.u8.wrap y.to = y.to := wrap_byte FC.out.2.2.2
                refine wp_region_G (C := fun W => (∀ j : Nat, W.cell? ⟨gc, j, none⟩ = (#[.int .i64 y.dy, .int .i64 y.co, .int .i64 y.fr, .int .i64 y.to] : Array Value)[j]?)) (s0 := 15) (by kernel_rfl) ?_
                have HY := Lib.hid (HY.out.below (Below.refl _ _).drew)
                have HR := Lib.hid (row_drewT HR.out)
                have HRC := Lib.hid (row_drewT HRC.out)
                generalize w4.drew = wd at *
                have hHeld := (show (∀ j : Nat, wd.cell? ⟨gc, j, none⟩ = (#[.int .i64 y.dy, .int .i64 y.co, .int .i64 y.fr, .int .i64 y.to] : Array Value)[j]?) from fun j => cell_of_row wd gc j _ _ _ HRC.out)
                refine wpAnyG_takeU (i := 0) (oi := { dst := some 132, op := Op.move (Operand.tmp 3), type := 52, pos := "ref.go:147", after := #[], guard := none }) (v := ?_) rfl (by kernel_rfl) (by kernel_rfl) (by kernel_rfl) (by decide) (fun _ _ _ h => h) (Or.inl ⟨by rfl, ?_⟩) (.inl (by assumption)) ?_
                rotate_left
                · intro w hSw; go_simp; try with_reducible rfl
                try simp only [Act.put, List.setIfInBounds_toArray, List.set_cons_zero, List.set_cons_succ]
                refine wpAnyG_takeU (i := 1) (oi := { dst := some 133, op := Op.fieldAddr 46 (Operand.tmp 8) 0, type := 0, pos := "ref.go:147", after := #[], guard := none }) (v := ?_) rfl (by kernel_rfl) (by kernel_rfl) (by kernel_rfl) (by decide) (fun _ _ _ h => h) (Or.inl ⟨by rfl, ?_⟩) (.inl (by assumption)) ?_
                rotate_left
                · intro w hSw; go_simp; try with_reducible rfl
                try simp only [Act.put, List.setIfInBounds_toArray, List.set_cons_zero, List.set_cons_succ]
                refine wpAnyG_takeM (i := 2) (oi := { dst := some 134, op := Op.load 3 (Operand.tmp 133), type := 3, pos := "ref.go:147", after := #[{ on := 1, ground := Ground.data }], guard := none }) (v := ?_) (ms := [3, 4, 15, 16]) rfl (by kernel_rfl) (by kernel_rfl) (by kernel_rfl) (by kernel_rfl) (by kernel_rfl) (fun _ _ _ h => h) (Or.inl ⟨by rfl, ?_⟩) (by assumption) ?_
                rotate_left
                · intro w hSw; (try dsimp only at hSw); go_simp; try with_reducible rfl
                try simp only [Act.put, List.setIfInBounds_toArray, List.set_cons_zero, List.set_cons_succ]
                refine wpAnyG_takeU (i := 3) (oi := { dst := some 135, op := Op.convert 3 22 (Operand.tmp 134), type := 22, pos := "ref.go:147", after := #[{ on := 2, ground := Ground.data }], guard := none }) (v := ?_) rfl (by kernel_rfl) (by kernel_rfl) (by kernel_rfl) (by decide) (fun _ _ _ h => h) (Or.inl ⟨by rfl, ?_⟩) (.inl (by assumption)) ?_
                rotate_left
                · intro w hSw; go_simp; try with_reducible rfl
                try simp only [Act.put, List.setIfInBounds_toArray, List.set_cons_zero, List.set_cons_succ]
                refine wpAnyG_takeU (i := 5) (oi := { dst := some 137, op := Op.fieldAddr 46 (Operand.tmp 8) 1, type := 0, pos := "ref.go:147", after := #[], guard := none }) (v := ?_) rfl (by kernel_rfl) (by kernel_rfl) (by kernel_rfl) (by decide) (fun _ _ _ h => h) (Or.inl ⟨by rfl, ?_⟩) (.inl (by assumption)) ?_
                rotate_left
                · intro w hSw; go_simp; try with_reducible rfl
                try simp only [Act.put, List.setIfInBounds_toArray, List.set_cons_zero, List.set_cons_succ]
                refine wpAnyG_takeM (i := 6) (oi := { dst := some 138, op := Op.load 3 (Operand.tmp 137), type := 3, pos := "ref.go:147", after := #[{ on := 5, ground := Ground.data }], guard := none }) (v := ?_) (ms := [7, 14, 15, 16]) rfl (by kernel_rfl) (by kernel_rfl) (by kernel_rfl) (by kernel_rfl) (by kernel_rfl) (fun _ _ _ h => h) (Or.inl ⟨by rfl, ?_⟩) (by assumption) ?_
                rotate_left
                · intro w hSw; (try dsimp only at hSw); go_simp; try with_reducible rfl
                try simp only [Act.put, List.setIfInBounds_toArray, List.set_cons_zero, List.set_cons_succ]
                refine wpAnyG_takeU (i := 7) (oi := { dst := some 139, op := Op.convert 3 5 (Operand.tmp 138), type := 5, pos := "ref.go:147", after := #[{ on := 6, ground := Ground.data }], guard := none }) (v := ?_) rfl (by kernel_rfl) (by kernel_rfl) (by kernel_rfl) (by decide) (fun _ _ _ h => h) (Or.inl ⟨by rfl, ?_⟩) (.inl (by assumption)) ?_
                rotate_left
                · intro w hSw; go_simp; try with_reducible rfl
                try simp only [Act.put, List.setIfInBounds_toArray, List.set_cons_zero, List.set_cons_succ]
                refine wpAnyG_takeU (i := 8) (oi := { dst := some 140, op := Op.fieldAddr 46 (Operand.tmp 8) 2, type := 0, pos := "ref.go:147", after := #[], guard := none }) (v := ?_) rfl (by kernel_rfl) (by kernel_rfl) (by kernel_rfl) (by decide) (fun _ _ _ h => h) (Or.inl ⟨by rfl, ?_⟩) (.inl (by assumption)) ?_
                rotate_left
                · intro w hSw; go_simp; try with_reducible rfl
                try simp only [Act.put, List.setIfInBounds_toArray, List.set_cons_zero, List.set_cons_succ]
                refine wpAnyG_takeM (i := 9) (oi := { dst := some 141, op := Op.load 35 (Operand.tmp 140), type := 35, pos := "ref.go:147", after := #[{ on := 8, ground := Ground.data }], guard := none }) (v := ?_) (ms := [10, 14, 15, 16]) rfl (by kernel_rfl) (by kernel_rfl) (by kernel_rfl) (by kernel_rfl) (by kernel_rfl) (fun _ _ _ h => h) (Or.inl ⟨by rfl, ?_⟩) (by assumption) ?_
                rotate_left
                · intro w hSw; (try dsimp only at hSw); go_simp; try with_reducible rfl
                try simp only [Act.put, List.setIfInBounds_toArray, List.set_cons_zero, List.set_cons_succ]
                refine wpAnyG_takeU (i := 10) (oi := { dst := some 142, op := Op.convert 35 5 (Operand.tmp 141), type := 5, pos := "ref.go:147", after := #[{ on := 9, ground := Ground.data }], guard := none }) (v := ?_) rfl (by kernel_rfl) (by kernel_rfl) (by kernel_rfl) (by decide) (fun _ _ _ h => h) (Or.inl ⟨by rfl, ?_⟩) (.inl (by assumption)) ?_
                rotate_left
                · intro w hSw; go_simp; try with_reducible rfl
                try simp only [Act.put, List.setIfInBounds_toArray, List.set_cons_zero, List.set_cons_succ]
                refine wpAnyG_takeU (i := 11) (oi := { dst := some 143, op := Op.fieldAddr 46 (Operand.tmp 8) 3, type := 0, pos := "ref.go:147", after := #[], guard := none }) (v := ?_) rfl (by kernel_rfl) (by kernel_rfl) (by kernel_rfl) (by decide) (fun _ _ _ h => h) (Or.inl ⟨by rfl, ?_⟩) (.inl (by assumption)) ?_
                rotate_left
                · intro w hSw; go_simp; try with_reducible rfl
                try simp only [Act.put, List.setIfInBounds_toArray, List.set_cons_zero, List.set_cons_succ]
                refine wpAnyG_takeM (i := 12) (oi := { dst := some 144, op := Op.load 35 (Operand.tmp 143), type := 35, pos := "ref.go:147", after := #[{ on := 11, ground := Ground.data }], guard := none }) (v := ?_) (ms := [13, 14, 15, 16]) rfl (by kernel_rfl) (by kernel_rfl) (by kernel_rfl) (by kernel_rfl) (by kernel_rfl) (fun _ _ _ h => h) (Or.inl ⟨by rfl, ?_⟩) (by assumption) ?_
                rotate_left
                · intro w hSw; (try dsimp only at hSw); go_simp; try with_reducible rfl
                try simp only [Act.put, List.setIfInBounds_toArray, List.set_cons_zero, List.set_cons_succ]
                refine wpAnyG_takeU (i := 13) (oi := { dst := some 145, op := Op.convert 35 5 (Operand.tmp 144), type := 5, pos := "ref.go:147", after := #[{ on := 12, ground := Ground.data }], guard := none }) (v := ?_) rfl (by kernel_rfl) (by kernel_rfl) (by kernel_rfl) (by decide) (fun _ _ _ h => h) (Or.inl ⟨by rfl, ?_⟩) (.inl (by assumption)) ?_
                rotate_left
                · intro w hSw; go_simp; try with_reducible rfl
                try simp only [Act.put, List.setIfInBounds_toArray, List.set_cons_zero, List.set_cons_succ]
                refine cutK (J := ?J20) ?h20 ?k20
                case h20 =>
                  intro hJ
                  have HJ := Lib.hid hJ
                  clear hJ
                  refine wpAnyG_two (i := 4) (oi := { dst := some 136, op := Op.call { callee := Callee.value (Operand.func 72), args := #[Operand.tmp 132, Operand.tmp 135, Operand.const (Value.int IntKind.i64 4)], argTypes := #[52, 22, 3] }, type := 52, pos := "ref.go:147", after := #[{ on := 0, ground := Ground.data }, { on := 3, ground := Ground.data }], guard := none }) (j := 14) (oj := { dst := some 146, op := Op.buildSlice 52 3 #[(0, Operand.tmp 139), (1, Operand.tmp 142), (2, Operand.tmp 145)], type := 52, pos := "ref.go:147", after := #[{ on := 7, ground := Ground.data }, { on := 10, ground := Ground.data }, { on := 13, ground := Ground.data }], guard := none }) (by kernel_rfl) rfl rfl (fun K hK => ?_) (fun K hK => ?_)
                  · go_simp
                    go_at_call 72
                    refine (put13_any w.heap.size _ _ y.dy 4 (by decide) FC.out.1 (by decide) (by have := HY.out.l; omega) _ HY.out.b.size HY.out.o).mono ?_
                    rintro e wq ⟨u, rfl, hown, hg⟩
                    have HYO := HY
                    have HY := Lib.hid (HYO.out.grown hown hg (4) (Wire.be_length _ _))
                    have HR := Lib.hid (HYO.out.row hg HR.out (by decide))
                    have HRC := Lib.hid (HYO.out.row hg HRC.out (by decide))
                    clear hown hg HYO
                    have hHeld := (show (∀ j : Nat, wq.cell? ⟨gc, j, none⟩ = (#[.int .i64 y.dy, .int .i64 y.co, .int .i64 y.fr, .int .i64 y.to] : Array Value)[j]?) from fun j => cell_of_row wq gc j _ _ _ HRC.out)
                    refine hK.out _ _ (.inl hHeld) ?_
                    clear hK K
                    try simp only [Act.put, List.setIfInBounds_toArray, List.set_cons_zero, List.set_cons_succ]
                    refine wpAnyG_one (i := 14) (o := { dst := some 146, op := Op.buildSlice 52 3 #[(0, Operand.tmp 139), (1, Operand.tmp 142), (2, Operand.tmp 145)], type := 52, pos := "ref.go:147", after := #[{ on := 7, ground := Ground.data }, { on := 10, ground := Ground.data }, { on := 13, ground := Ground.data }], guard := none }) (by kernel_rfl) rfl (fun K hK => ?_)
                    go_simp
                    have hbn := (Below.refl wq.heap.size wq).alloc (Nat.le_refl _) (.cells #[.int .u8 y.co, .int .u8 y.fr, .int .u8 y.to] 5 (0, 0))
                    replace HY := Lib.hid (HY.out.below hbn)
                    have HR := Lib.hid ((hbn.block _ (block_lt HR.out)).trans HR.out)
                    have HRC := Lib.hid ((hbn.block _ (block_lt HRC.out)).trans HRC.out)
                    have HTR := Lib.hid (new_rowW wq (.cells #[.int .u8 y.co, .int .u8 y.fr, .int .u8 y.to] 5 (0, 0)) _ rfl)
                    clear hbn
                    have hHeld := (show (∀ j : Nat, (wq.alloc (.cells #[.int .u8 y.co, .int .u8 y.fr, .int .u8 y.to] 5 (0, 0))).cell? ⟨gc, j, none⟩ = (#[.int .i64 y.dy, .int .i64 y.co, .int .i64 y.fr, .int .i64 y.to] : Array Value)[j]?) from fun j => cell_of_row _ gc j _ _ _ HRC.out)
                    refine hK.out _ _ (.inl hHeld) ?_
                    clear hK K
                    try simp only [Act.put, List.setIfInBounds_toArray, List.set_cons_zero, List.set_cons_succ]
                    clear hHeld
                    generalize wq.alloc (.cells #[.int .u8 y.co, .int .u8 y.fr, .int .u8 y.to] 5 (0, 0)) = Y at HY HR HRC HTR ⊢
                    generalize wq.heap.size = gb at HTR ⊢
                    revert HY HR HRC HTR
                    revert Y gb u
                    exact HJ.out
                  · go_simp
                    have hbn := (Below.refl wd.heap.size wd).alloc (Nat.le_refl _) (.cells #[.int .u8 y.co, .int .u8 y.fr, .int .u8 y.to] 5 (0, 0))
                    have HYW := HY
                    have HY := Lib.hid (HY.out.below hbn)
                    have HR := Lib.hid ((hbn.block _ (block_lt HR.out)).trans HR.out)
                    have HRC := Lib.hid ((hbn.block _ (block_lt HRC.out)).trans HRC.out)
                    have HTR0 := Lib.hid (new_rowW wd (.cells #[.int .u8 y.co, .int .u8 y.fr, .int .u8 y.to] 5 (0, 0)) _ rfl)
                    clear hbn
                    have hHeld := (show (∀ j : Nat, (wd.alloc (.cells #[.int .u8 y.co, .int .u8 y.fr, .int .u8 y.to] 5 (0, 0))).cell? ⟨gc, j, none⟩ = (#[.int .i64 y.dy, .int .i64 y.co, .int .i64 y.fr, .int .i64 y.to] : Array Value)[j]?) from fun j => cell_of_row _ gc j _ _ _ HRC.out)
                    refine hK.out _ _ (.inl hHeld) ?_
                    clear hK K
                    try simp only [Act.put, List.setIfInBounds_toArray, List.set_cons_zero, List.set_cons_succ]
                    refine wpAnyG_one (i := 4) (o := { dst := some 136, op := Op.call { callee := Callee.value (Operand.func 72), args := #[Operand.tmp 132, Operand.tmp 135, Operand.const (Value.int IntKind.i64 4)], argTypes := #[52, 22, 3] }, type := 52, pos := "ref.go:147", after := #[{ on := 0, ground := Ground.data }, { on := 3, ground := Ground.data }], guard := none }) (by kernel_rfl) rfl (fun K hK => ?_)
                    go_simp
                    go_at_call 72
                    refine (put13_any w.heap.size _ _ y.dy 4 (by decide) FC.out.1 (by decide) (by have := HY.out.l; omega) _ HY.out.b.size HY.out.o).mono ?_
                    rintro e wq ⟨u, rfl, hown, hg⟩
                    have HYO := HY
                    have HY := Lib.hid (HYO.out.grown hown hg (4) (Wire.be_length _ _))
                    have HR := Lib.hid (HYO.out.row hg HR.out (by decide))
                    have HRC := Lib.hid (HYO.out.row hg HRC.out (by decide))
                    have HTR := Lib.hid ((hg.block _ (block_lt HTR0.out) (fun k => by have := (HYW.out.o.lt _ k.symm).2; omega)).trans HTR0.out)
                    clear HTR0 HYW
                    clear hown hg HYO
                    have hHeld := (show (∀ j : Nat, wq.cell? ⟨gc, j, none⟩ = (#[.int .i64 y.dy, .int .i64 y.co, .int .i64 y.fr, .int .i64 y.to] : Array Value)[j]?) from fun j => cell_of_row wq gc j _ _ _ HRC.out)
                    refine hK.out _ _ (.inl hHeld) ?_
                    clear hK K
                    try simp only [Act.put, List.setIfInBounds_toArray, List.set_cons_zero, List.set_cons_succ]
                    clear hHeld
                    generalize wq = Y at HY HR HRC HTR ⊢
                    generalize wd.heap.size = gb at HTR ⊢
                    revert HY HR HRC HTR
                    revert Y gb u
                    exact HJ.out
                case k20 =>
                  intro u Y gb HY HR HRC HTR
                  have HLB := Lib.hid (bs_lits HTR.out [y.co, y.fr, y.to] (by simp) (by intro z hz; simp only [List.mem_cons, List.not_mem_nil, or_false] at hz; rcases hz with rfl | rfl | rfl <;> first | exact FC.out.2.1 | exact FC.out.2.2.1 | exact FC.out.2.2.2) rfl)
                  have hHeld := (show (∀ j : Nat, Y.cell? ⟨gc, j, none⟩ = (#[.int .i64 y.dy, .int .i64 y.co, .int .i64 y.fr, .int .i64 y.to] : Array Value)[j]?) from fun j => cell_of_row Y gc j _ _ _ HRC.out)
                  clear HTR
                  refine wpAnyG_one (i := 15) (o := { dst := some 147, op := Op.call { callee := Callee.builtin Builtin.append, args := #[Operand.tmp 136, Operand.tmp 146], argTypes := #[52, 52] }, type := 52, pos := "ref.go:147", after := #[{ on := 4, ground := Ground.data }, { on := 14, ground := Ground.data }, { on := 4, ground := Ground.chain }], guard := none }) (by kernel_rfl) rfl (fun K hK => ?_)
                  refine step_append_bytesT rfl _ _ rfl w.heap.size _ _ _ rfl HY.out.o _ _ rfl HLB.out (by have := HY.out.l; have hl := lits_len [y.co, y.fr, y.to]; simp only [List.length_cons, List.length_nil] at hl; omega) HY.out.b.size ?_
                  intro u2 wq hown hg
                  have HYO := HY
                  have HY := Lib.hid (HYO.out.app hown hg (3) (lits_len [y.co, y.fr, y.to]))
                  have HR := Lib.hid (HYO.out.row hg HR.out (by decide))
                  have HRC := Lib.hid (HYO.out.row hg HRC.out (by decide))
                  clear hown hg HYO HLB
                  refine hK.out _ _ (.inr rfl) ?_
                  clear hK K
                  try simp only [Act.put, List.setIfInBounds_toArray, List.set_cons_zero, List.set_cons_succ]
                  refine wpAnyG_takeU (i := 16) (oi := { dst := some 3, op := Op.assign (Operand.tmp 147), type := 52, pos := "ref.go:147", after := #[{ on := 15, ground := Ground.data }, { on := 15, ground := Ground.chain }, { on := 0, ground := Ground.phase }, { on := 1, ground := Ground.phase }, { on := 2, ground := Ground.phase }, { on := 3, ground := Ground.phase }, { on := 4, ground := Ground.phase }, { on := 5, ground := Ground.phase }, { on := 6, ground := Ground.phase }, { on := 7, ground := Ground.phase }, { on := 8, ground := Ground.phase }, { on := 9, ground := Ground.phase }, { on := 10, ground := Ground.phase }, { on := 11, ground := Ground.phase }, { on := 12, ground := Ground.phase }, { on := 13, ground := Ground.phase }, { on := 14, ground := Ground.phase }, { on := 15, ground := Ground.phase }], guard := none }) (v := ?_) rfl (by kernel_rfl) (by kernel_rfl) (by kernel_rfl) (by decide) (fun _ _ _ h => h) (Or.inl ⟨by rfl, ?_⟩) (.inr rfl) ?_
                  rotate_left
                  · intro w hSw; go_simp; try with_reducible rfl
                  try simp only [Act.put, List.setIfInBounds_toArray, List.set_cons_zero, List.set_cons_succ]
                  refine wpAnyG_done (by kernel_rfl) ?_ _
                  clear hHeld
                  clear k1 k2 k3 k4 HRC
                  go_wp2_with fail
                  go_roundw
                  case rel => exact ⟨j + 1, by omega, by go_num, HY.out.as (by rw [Tkt.take_snocG HX.out, List.flatMap_append]; simp [Tkt.encE, List.append_assoc]) (by omega), HR.out⟩
                  case measure => simp [intOf]; omega
              · have hjn : j = h.n := by omega
                subst hjn
                have hlen : t.hs.take h.n = t.hs := List.take_of_length_le (by have := HCN.out; have := HXN.out; have := HHN.out; omega)
                rw [hlen] at HY
                clear hlen
                have hcc := fun j => cell_of_row wr w.heap.size j _ _ _ HR.out
                go_wp2_with fail
                go_ret
                exact ⟨_, rfl, enc_end (HY.out.as rfl (Nat.le_refl _)), HY.out.b⟩
end Go.Proofs.Ytmadkfahkbdibaa

set_option linter.unusedVariables false
set_option linter.unusedSimpArgs false
namespace Go.Proofs.Ytmadkfahkbdibaa.ticketBytes
open Go.ChangeShapes Go.WideShapes Go.ChangeAt Go.RowKit Go.Deep

attribute [local go_sem ↓] Tk_execLoad Tk_execStore
attribute [local go_sem] Tk_load Tk_store loL_drew okL_drew there_sc World.there_drew
attribute [local irreducible] Tkt.encT
theorem flat_len {α : Type} {f : α → List UInt8} {k : Nat} (hf : ∀ x, (f x).length = k) : ∀ l : List α, (l.flatMap f).length = k * l.length
  | [] => by simp
  | x :: l => by rw [List.flatMap_cons, List.length_append, hf, flat_len hf l, List.length_cons, Nat.mul_add]; omega
theorem enc_len {t : Tk} (hm : Tkt.mayB t = true) (ft : Tkt.Fits t) : (Tkt.encT t).length ≤ 1000 := by
  have h1 := Tkt.mayB_lens hm
  have h6 := Tkt.loc_six hm
  have e1 := flat_len (f := Tkt.encC) (k := 25) (fun x => by unfold Tkt.encC; simp [Wire.be_length]) t.cs
  have e2 := flat_len (f := Tkt.encX) (k := 9) (fun x => by unfold Tkt.encX; simp [Wire.be_length]) t.ts
  have e3 := flat_len (f := Tkt.encE) (k := 7) (fun x => by unfold Tkt.encE; simp [Wire.be_length]) t.hs
  unfold Tkt.encT Tkt.encH
  simp only [List.length_append, Wire.be_length, e1, e2, e3, h6]
  omega
set_option maxRecDepth 8000 in
set_option maxHeartbeats 8000000 in
theorem walk (t : Tk) (c x h : Sl) (w : World) (ts : TS w t c x h) : Calls Try.prog 6 #[.agg #[.int .u64 t.num, .string t.loc, .int .i64 t.iss, .slice c.p c.n c.c, .slice x.p x.n x.c, .int .u64 t.prev, .int .u64 t.org, .int .u64 t.fst, .int .i64 t.vou, .int .i64 t.posts, .slice h.p h.n h.c]] w fun e w' => e = .returned (.bool true) ∧ Below w.heap.size w w' := by
  have HTT := Lib.hid ts
  have HKN := Lib.hid (fun W => known13_any W)
  have HM := Lib.hid (fun W hW => rmuch_any t c x h W (ts.below hW))
  have HMA := Lib.hid (fun W hW => rmay_any t c x h W (ts.below hW))
  have HTM := Lib.hid (fun W hW => tmay_any t c x h W (ts.below hW))
  have HTB := Lib.hid (fun W hW => tbytes_any t c x h W (ts.below hW))
  obtain ⟨mu, hmu⟩ : ∃ m, Tkt.muchB t = m := ⟨_, rfl⟩
  have HMU := Lib.hid hmu
  rw [hmu] at HM
  obtain ⟨mb, hmb⟩ : ∃ m, Tkt.mayB t = m := ⟨_, rfl⟩
  have HMB := Lib.hid hmb
  rw [hmb] at HMA HTM HTB
  have HB := Lib.hid ((Below.refl w.heap.size w).alloc (Nat.le_refl _) (.cells #[.int .u64 t.num, .string t.loc, .int .i64 t.iss, .slice c.p c.n c.c, .slice x.p x.n x.c, .int .u64 t.prev, .int .u64 t.org, .int .u64 t.fst, .int .i64 t.vou, .int .i64 t.posts, .slice h.p h.n h.c] 27 (0, 0)))
  have HR := Lib.hid (new_rowW w (.cells #[.int .u64 t.num, .string t.loc, .int .i64 t.iss, .slice c.p c.n c.c, .slice x.p x.n x.c, .int .u64 t.prev, .int .u64 t.org, .int .u64 t.fst, .int .i64 t.vou, .int .i64 t.posts, .slice h.p h.n h.c] 27 (0, 0)) _ rfl)
  obtain ⟨f1, f2⟩ := row_loT 11 HR.out rfl rfl
  clear hmu hmb
  cases mu
  · have hlen : t.cs.length ≤ 20 ∧ t.ts.length ≤ 20 ∧ t.hs.length ≤ 100 := by have := HMU.out; unfold Tkt.muchB at this; simp at this; omega
    have HLEN := Lib.hid hlen
    clear hlen
    go_enter Try.func6, Try.ntmps6
    go_upto_region 3 with (go_at_call 11; refine (HM.out _ HB.out).mono ?_; rintro e wn ⟨rfl, hbn⟩; have HB := Lib.hid (HB.out.trans (hbn.mono HB.out.size)); have HR := Lib.hid ((hbn.block _ (block_lt HR.out)).trans HR.out); obtain ⟨f1, f2⟩ := row_loT 11 HR.out rfl rfl; clear hbn)
    go_wp2_with fail
    clear f1 f2
    refine (rcopy_any t c x h _ (HTT.out.below HB.out) (by have := HLEN.out; omega) (by have := HLEN.out; omega) (by have := HLEN.out; omega)).mono ?_
    rintro e wn ⟨⟨a1, k1, b1⟩, ⟨a2, k2, b2⟩, ⟨a3, k3, b3⟩, rfl, hw1, hw2, hw3, hbn⟩
    have HT5 := Lib.hid (TS.of_own (t := t) (c := ⟨a1, k1, b1⟩) (x := ⟨a2, k2, b2⟩) (h := ⟨a3, k3, b3⟩) HTT.out.wf hw1 hw2 hw3)
    clear hw1 hw2 hw3
    have HB := Lib.hid (HB.out.trans (hbn.mono HB.out.size))
    have HR := Lib.hid ((hbn.block _ (block_lt HR.out)).trans HR.out)
    clear hbn
    obtain ⟨f1, f2⟩ := row_loT 11 HR.out rfl rfl
    have th := there_newT (w := wn) (zs := [.int .u64 0, .string ⟨#[]⟩, .int .i64 0, .slice none 0 0, .slice none 0 0, .int .u64 0, .int .u64 0, .int .u64 0, .int .i64 0, .int .i64 0, .slice none 0 0]) (e := 27) (n := 11) rfl
    have h1n : ([.int .u64 t.num, .string t.loc, .int .i64 t.iss, .slice a1 k1 b1, .slice a2 k2 b2, .int .u64 t.prev, .int .u64 t.org, .int .u64 t.fst, .int .i64 t.vou, .int .i64 t.posts, .slice a3 k3 b3] : List Value).length = 11 := rfl
    have h1c : ([.int .u64 t.num, .string t.loc, .int .i64 t.iss, .slice a1 k1 b1, .slice a2 k2 b2, .int .u64 t.prev, .int .u64 t.org, .int .u64 t.fst, .int .i64 t.vou, .int .i64 t.posts, .slice a3 k3 b3] : List Value).all (·.oneCell') = true := rfl
    go_upto_region 4 with fail
    have HP := Lib.hid (putTk (W := wn) (cs := [.int .u64 t.num, .string t.loc, .int .i64 t.iss, .slice a1 k1 b1, .slice a2 k2 b2, .int .u64 t.prev, .int .u64 t.org, .int .u64 t.fst, .int .i64 t.vou, .int .i64 t.posts, .slice a3 k3 b3]) rfl)
    have HR := Lib.hid ((HP.out.2.block _ (block_lt HR.out)).trans HR.out)
    have HT5 := Lib.hid (HT5.out.below HP.out.2)
    have HB := Lib.hid (HB.out.trans (HP.out.2.mono HB.out.size))
    have HRg6 := Lib.hid HP.out.1
    clear HP th h1n h1c f1 f2
    generalize (wn.alloc (.cells #[.int .u64 0, .string ⟨#[]⟩, .int .i64 0, .slice none 0 0, .slice none 0 0, .int .u64 0, .int .u64 0, .int .u64 0, .int .i64 0, .int .i64 0, .slice none 0 0] 27 (0, 0))).setCells wn.heap.size 0 [.int .u64 t.num, .string t.loc, .int .i64 t.iss, .slice a1 k1 b1, .slice a2 k2 b2, .int .u64 t.prev, .int .u64 t.org, .int .u64 t.fst, .int .i64 t.vou, .int .i64 t.posts, .slice a3 k3 b3] = w5 at *
    generalize wn.heap.size = g6 at *
    cases mb
    · simp only [Bool.false_eq_true, if_false, List.length_nil] at HTB
      obtain ⟨f1, f2⟩ := row_loT 11 HR.out rfl rfl
      obtain ⟨f3, f4⟩ := row_loT 11 HRg6.out rfl rfl
      go_wp2_with fail
      clear f1 f2 f3 f4
      refine (HTB.out _ HB.out).mono ?_
      rintro e wn ⟨vb, rfl, hob, hbn⟩
      have hvb := own_form hob
      obtain ⟨qb, zb, rfl⟩ := hvb
      clear hob
      have HB := Lib.hid (HB.out.trans (hbn.mono HB.out.size))
      have HR := Lib.hid ((hbn.block _ (block_lt HR.out)).trans HR.out)
      have HRg6 := Lib.hid ((hbn.block _ (block_lt HRg6.out)).trans HRg6.out)
      have HT5 := Lib.hid (HT5.out.below hbn)
      clear hbn
      generalize wn = wm at *
      obtain ⟨f1, f2⟩ := row_loT 11 HR.out rfl rfl
      obtain ⟨f3, f4⟩ := row_loT 11 HRg6.out rfl rfl
      go_wp2_with fail
      clear f1 f2 f3 f4
      refine (HMA.out _ HB.out).mono ?_
      rintro e wn ⟨rfl, hbn⟩
      have HB := Lib.hid (HB.out.trans (hbn.mono HB.out.size))
      have HR := Lib.hid ((hbn.block _ (block_lt HR.out)).trans HR.out)
      have HRg6 := Lib.hid ((hbn.block _ (block_lt HRg6.out)).trans HRg6.out)
      have HT5 := Lib.hid (HT5.out.below hbn)
      clear hbn
      generalize wn = wm at *
      obtain ⟨f1, f2⟩ := row_loT 11 HR.out rfl rfl
      obtain ⟨f3, f4⟩ := row_loT 11 HRg6.out rfl rfl
      go_wp2_with fail
      clear f1 f2 f3 f4
      refine (HTM.out _ HB.out).mono ?_
      rintro e wn ⟨rfl, hbn⟩
      have HB := Lib.hid (HB.out.trans (hbn.mono HB.out.size))
      have HR := Lib.hid ((hbn.block _ (block_lt HR.out)).trans HR.out)
      have HRg6 := Lib.hid ((hbn.block _ (block_lt HRg6.out)).trans HRg6.out)
      have HT5 := Lib.hid (HT5.out.below hbn)
      clear hbn
      generalize wn = wm at *
      obtain ⟨f1, f2⟩ := row_loT 11 HR.out rfl rfl
      obtain ⟨f3, f4⟩ := row_loT 11 HRg6.out rfl rfl
      go_wp2_with fail
      clear f1 f2 f3 f4
      refine (rsame_any t t ⟨a1, k1, b1⟩ ⟨a2, k2, b2⟩ ⟨a3, k3, b3⟩ c x h _ HT5.out (HTT.out.below HB.out) true (by simp)).mono ?_
      rintro e wn ⟨rfl, hbn⟩
      have HB := Lib.hid (HB.out.trans (hbn.mono HB.out.size))
      have HR := Lib.hid ((hbn.block _ (block_lt HR.out)).trans HR.out)
      have HRg6 := Lib.hid ((hbn.block _ (block_lt HRg6.out)).trans HRg6.out)
      have HT5 := Lib.hid (HT5.out.below hbn)
      clear hbn
      generalize wn = wm at *
      go_wp2_with (go_at_call 12; refine (HKN.out _).mono ?_; rintro e wk ⟨rfl, hbk⟩; have HBK := Lib.hid (HB.out.trans (hbk.mono HB.out.size)); clear hbk)
      go_ret
      exact ⟨rfl, HBK.out⟩
    · have HTB2 : Hid (∀ W, Below w.heap.size w W → Calls Try.prog 21 #[.agg #[.int .u64 t.num, .string t.loc, .int .i64 t.iss, .slice c.p c.n c.c, .slice x.p x.n x.c, .int .u64 t.prev, .int .u64 t.org, .int .u64 t.fst, .int .i64 t.vou, .int .i64 t.posts, .slice h.p h.n h.c]] W fun e w' => ∃ v, e = .returned (.tuple #[v, .int .i64 0]) ∧ w'.ownsRow W.heap.size 5 1 v (Tkt.encT t).length (bytesV (Tkt.encT t)) ∧ Below W.heap.size W w') := Lib.hid (fun W hW => by have := HTB.out W hW; simpa using this)
      clear HTB
      obtain ⟨f1, f2⟩ := row_loT 11 HR.out rfl rfl
      obtain ⟨f3, f4⟩ := row_loT 11 HRg6.out rfl rfl
      go_wp2_with fail
      clear f1 f2 f3 f4
      refine (HTB2.out _ HB.out).mono ?_
      rintro e wn ⟨vb, rfl, hob, hbn⟩
      have HOB := Lib.hid hob
      clear hob
      have HB := Lib.hid (HB.out.trans (hbn.mono HB.out.size))
      have HR := Lib.hid ((hbn.block _ (block_lt HR.out)).trans HR.out)
      have HRg6 := Lib.hid ((hbn.block _ (block_lt HRg6.out)).trans HRg6.out)
      have HT5 := Lib.hid (HT5.out.below hbn)
      clear hbn
      generalize wn = wm at *
      obtain ⟨f1, f2⟩ := row_loT 11 HR.out rfl rfl
      obtain ⟨f3, f4⟩ := row_loT 11 HRg6.out rfl rfl
      go_wp2_with fail
      clear f1 f2 f3 f4
      refine (HMA.out _ HB.out).mono ?_
      rintro e wn ⟨rfl, hbn⟩
      have HB := Lib.hid (HB.out.trans (hbn.mono HB.out.size))
      have HR := Lib.hid ((hbn.block _ (block_lt HR.out)).trans HR.out)
      have HRg6 := Lib.hid ((hbn.block _ (block_lt HRg6.out)).trans HRg6.out)
      have HT5 := Lib.hid (HT5.out.below hbn)
      have HOB := Lib.hid (recs_below HOB.out hbn)
      clear hbn
      generalize wn = wm at *
      obtain ⟨f1, f2⟩ := row_loT 11 HR.out rfl rfl
      obtain ⟨f3, f4⟩ := row_loT 11 HRg6.out rfl rfl
      go_wp2_with fail
      clear f1 f2 f3 f4
      refine (HTM.out _ HB.out).mono ?_
      rintro e wn ⟨rfl, hbn⟩
      have HB := Lib.hid (HB.out.trans (hbn.mono HB.out.size))
      have HR := Lib.hid ((hbn.block _ (block_lt HR.out)).trans HR.out)
      have HRg6 := Lib.hid ((hbn.block _ (block_lt HRg6.out)).trans HRg6.out)
      have HT5 := Lib.hid (HT5.out.below hbn)
      have HOB := Lib.hid (recs_below HOB.out hbn)
      clear hbn
      generalize wn = wm at *
      obtain ⟨f1, f2⟩ := row_loT 11 HR.out rfl rfl
      obtain ⟨f3, f4⟩ := row_loT 11 HRg6.out rfl rfl
      go_wp2_with fail
      clear f1 f2 f3 f4
      refine (rsame_any t t ⟨a1, k1, b1⟩ ⟨a2, k2, b2⟩ ⟨a3, k3, b3⟩ c x h _ HT5.out (HTT.out.below HB.out) true (by simp)).mono ?_
      rintro e wn ⟨rfl, hbn⟩
      have HB := Lib.hid (HB.out.trans (hbn.mono HB.out.size))
      have HR := Lib.hid ((hbn.block _ (block_lt HR.out)).trans HR.out)
      have HRg6 := Lib.hid ((hbn.block _ (block_lt HRg6.out)).trans HRg6.out)
      have HT5 := Lib.hid (HT5.out.below hbn)
      have HOB := Lib.hid (recs_below HOB.out hbn)
      clear hbn
      generalize wn = wm at *
      have HOK := Lib.hid (Tkt.ok_enc HMB.out HTT.out.wf)
      have HFT := Lib.hid (Tkt.fits_of HMB.out HTT.out.wf)
      have HEL : Hid ((Tkt.encT t).length ≤ 1000) := Lib.hid (enc_len HMB.out HFT.out)
      have HOF : Hid (∀ W v, BS W v (Tkt.encT t) → Calls Try.prog 22 #[v] W fun e w' => ∃ c x h : Sl, e = .returned (.tuple #[.agg #[.int .u64 t.num, .string t.loc, .int .i64 t.iss, .slice c.p c.n c.c, .slice x.p x.n x.c, .int .u64 t.prev, .int .u64 t.org, .int .u64 t.fst, .int .i64 t.vou, .int .i64 t.posts, .slice h.p h.n h.c], .int .i64 0]) ∧ TS w' t c x h ∧ Below W.heap.size W w') := Lib.hid (fun W v hv => (tof_any v _ (by have := HEL.out; omega) W hv).mono (by
        rintro e w1 ⟨c, x, h, rfl, o1, o2, o3, hb⟩
        rw [HOK.out.2] at o1 o2 o3 ⊢
        rw [if_pos HOK.out.1]
        exact ⟨c, x, h, rfl, TS.of_own HTT.out.wf o1 o2 o3, hb⟩))
      obtain ⟨f1, f2⟩ := row_loT 11 HR.out rfl rfl
      obtain ⟨f3, f4⟩ := row_loT 11 HRg6.out rfl rfl
      go_wp2_with fail
      clear f1 f2 f3 f4
      refine (HOF.out _ _ (BS.of_own HOB.out)).mono ?_
      rintro e wn ⟨⟨q1, n1, z1⟩, ⟨q2, n2, z2⟩, ⟨q3, n3, z3⟩, rfl, hts, hbn⟩
      have HT7 := Lib.hid hts
      clear hts
      have HB := Lib.hid (HB.out.trans (hbn.mono HB.out.size))
      have HR := Lib.hid ((hbn.block _ (block_lt HR.out)).trans HR.out)
      have HRg6 := Lib.hid ((hbn.block _ (block_lt HRg6.out)).trans HRg6.out)
      have HT5 := Lib.hid (HT5.out.below hbn)
      have HOB := Lib.hid (recs_below HOB.out hbn)
      clear hbn
      obtain ⟨f1, f2⟩ := row_loT 11 HR.out rfl rfl
      have th := there_newT (w := wn) (zs := [.int .u64 0, .string ⟨#[]⟩, .int .i64 0, .slice none 0 0, .slice none 0 0, .int .u64 0, .int .u64 0, .int .u64 0, .int .i64 0, .int .i64 0, .slice none 0 0]) (e := 27) (n := 11) rfl
      have h1n : ([.int .u64 t.num, .string t.loc, .int .i64 t.iss, .slice q1 n1 z1, .slice q2 n2 z2, .int .u64 t.prev, .int .u64 t.org, .int .u64 t.fst, .int .i64 t.vou, .int .i64 t.posts, .slice q3 n3 z3] : List Value).length = 11 := rfl
      have h1c : ([.int .u64 t.num, .string t.loc, .int .i64 t.iss, .slice q1 n1 z1, .slice q2 n2 z2, .int .u64 t.prev, .int .u64 t.org, .int .u64 t.fst, .int .i64 t.vou, .int .i64 t.posts, .slice q3 n3 z3] : List Value).all (·.oneCell') = true := rfl
      go_upto_region 11 with fail
      have HP := Lib.hid (putTk (W := wn) (cs := [.int .u64 t.num, .string t.loc, .int .i64 t.iss, .slice q1 n1 z1, .slice q2 n2 z2, .int .u64 t.prev, .int .u64 t.org, .int .u64 t.fst, .int .i64 t.vou, .int .i64 t.posts, .slice q3 n3 z3]) rfl)
      have HR := Lib.hid ((HP.out.2.block _ (block_lt HR.out)).trans HR.out)
      have HRg6 := Lib.hid ((HP.out.2.block _ (block_lt HRg6.out)).trans HRg6.out)
      have HT5 := Lib.hid (HT5.out.below HP.out.2)
      have HT7 := Lib.hid (HT7.out.below HP.out.2)
      have HOB := Lib.hid (recs_below HOB.out HP.out.2)
      have HB := Lib.hid (HB.out.trans (HP.out.2.mono HB.out.size))
      have HRg7 := Lib.hid HP.out.1
      clear HP th h1n h1c f1 f2
      generalize (wn.alloc (.cells #[.int .u64 0, .string ⟨#[]⟩, .int .i64 0, .slice none 0 0, .slice none 0 0, .int .u64 0, .int .u64 0, .int .u64 0, .int .i64 0, .int .i64 0, .slice none 0 0] 27 (0, 0))).setCells wn.heap.size 0 [.int .u64 t.num, .string t.loc, .int .i64 t.iss, .slice q1 n1 z1, .slice q2 n2 z2, .int .u64 t.prev, .int .u64 t.org, .int .u64 t.fst, .int .i64 t.vou, .int .i64 t.posts, .slice q3 n3 z3] = w7 at *
      generalize wn.heap.size = g7 at *
      clear HRg6 HT5
      obtain ⟨S, hS⟩ : ∃ S : ByteArray, ⟨(Tkt.encT t).toArray⟩ = S := ⟨_, rfl⟩
      have HS := Lib.hid hS
      clear hS
      have HSV : Hid (∀ W v, BS W v (Tkt.encT t) → (convert 52 9 v).run Try.prog W = .ok (.string S) W) := Lib.hid (fun W v hv => by rw [← HS.out]; exact hv.to_string)
      have HRB := Lib.hid (fun W hW => rbytes13_any t c x h W (HTT.out.below hW) HMB.out)
      refine wp_region_G (C := fun W => (loL 11 W w.heap.size 0 = [.int .u64 t.num, .string t.loc, .int .i64 t.iss, .slice c.p c.n c.c, .slice x.p x.n x.c, .int .u64 t.prev, .int .u64 t.org, .int .u64 t.fst, .int .i64 t.vou, .int .i64 t.posts, .slice h.p h.n h.c] ∧ okL 11 W w.heap.size 0) ∧ (loL 11 W g7 0 = [.int .u64 t.num, .string t.loc, .int .i64 t.iss, .slice q1 n1 z1, .slice q2 n2 z2, .int .u64 t.prev, .int .u64 t.org, .int .u64 t.fst, .int .i64 t.vou, .int .i64 t.posts, .slice q3 n3 z3] ∧ okL 11 W g7 0) ∧ (convert 52 9 vb).run Try.prog W = .ok (.string S) W) (s0 := 22) (by kernel_rfl) ?_
      have HB := Lib.hid (HB.out.trans ((Below.refl w7.heap.size w7).drew.mono HB.out.size))
      have HR := Lib.hid (row_drewT HR.out)
      have HRg7 := Lib.hid (row_drewT HRg7.out)
      have HT7 := Lib.hid (HT7.out.below (Below.refl _ _).drew)
      have HOB := Lib.hid (recs_below HOB.out (Below.refl _ _).drew)
      generalize w7.drew = wd at *
      have hHeld := (show (loL 11 wd w.heap.size 0 = [.int .u64 t.num, .string t.loc, .int .i64 t.iss, .slice c.p c.n c.c, .slice x.p x.n x.c, .int .u64 t.prev, .int .u64 t.org, .int .u64 t.fst, .int .i64 t.vou, .int .i64 t.posts, .slice h.p h.n h.c] ∧ okL 11 wd w.heap.size 0) ∧ (loL 11 wd g7 0 = [.int .u64 t.num, .string t.loc, .int .i64 t.iss, .slice q1 n1 z1, .slice q2 n2 z2, .int .u64 t.prev, .int .u64 t.org, .int .u64 t.fst, .int .i64 t.vou, .int .i64 t.posts, .slice q3 n3 z3] ∧ okL 11 wd g7 0) ∧ (convert 52 9 vb).run Try.prog wd = .ok (.string S) wd from ⟨row_loT 11 HR.out rfl rfl, row_loT 11 HRg7.out rfl rfl, HSV.out _ _ (BS.of_own HOB.out)⟩)
      refine wpAnyG_takeU (i := 0) (oi := { dst := some 48, op := Op.move (Operand.tmp 5), type := 32, pos := "law.go:47", after := #[], guard := none }) (v := ?_) rfl (by kernel_rfl) (by kernel_rfl) (by kernel_rfl) (by decide) (fun _ _ _ h => h) (Or.inl ⟨by rfl, ?_⟩) (.inl (by assumption)) ?_
      rotate_left
      · intro w hSw; go_simp; try with_reducible rfl
      try simp only [Act.put, List.setIfInBounds_toArray, List.set_cons_zero, List.set_cons_succ]
      refine wpAnyG_takeU (i := 1) (oi := { dst := some 49, op := Op.binOp BinOp.eql 32 (Operand.tmp 48) (Operand.const (Value.int IntKind.i64 0)) 32, type := 4, pos := "law.go:47", after := #[{ on := 0, ground := Ground.data }], guard := none }) (v := ?_) rfl (by kernel_rfl) (by kernel_rfl) (by kernel_rfl) (by decide) (fun _ _ _ h => h) (Or.inl ⟨by rfl, ?_⟩) (.inl (by assumption)) ?_
      rotate_left
      · intro w hSw; go_simp; try with_reducible rfl
      try simp only [Act.put, List.setIfInBounds_toArray, List.set_cons_zero, List.set_cons_succ]
      refine wpAnyG_takeU (i := 2) (oi := { dst := some 50, op := Op.move (Operand.tmp 49), type := 4, pos := "law.go:47", after := #[{ on := 1, ground := Ground.data }], guard := none }) (v := ?_) rfl (by kernel_rfl) (by kernel_rfl) (by kernel_rfl) (by decide) (fun _ _ _ h => h) (Or.inl ⟨by rfl, ?_⟩) (.inl (by assumption)) ?_
      rotate_left
      · intro w hSw; go_simp; try with_reducible rfl
      try simp only [Act.put, List.setIfInBounds_toArray, List.set_cons_zero, List.set_cons_succ]
      refine wpAnyG_takeU (i := 3) (oi := { dst := some 51, op := Op.move (Operand.tmp 4), type := 52, pos := "law.go:47", after := #[{ on := 2, ground := Ground.guard }], guard := some (2, true) }) (v := ?_) rfl (by kernel_rfl) (by kernel_rfl) (by kernel_rfl) (by decide) (fun _ _ _ h => h) (Or.inl ⟨by rfl, ?_⟩) (.inl (by assumption)) ?_
      rotate_left
      · intro w hSw; go_simp; try with_reducible rfl
      try simp only [Act.put, List.setIfInBounds_toArray, List.set_cons_zero, List.set_cons_succ]
      refine wpAnyG_takeM (i := 4) (oi := { dst := some 52, op := Op.convert 52 9 (Operand.tmp 51), type := 9, pos := "law.go:47", after := #[{ on := 3, ground := Ground.data }, { on := 2, ground := Ground.guard }], guard := some (2, true) }) (v := ?_) (ms := [8, 9, 10, 11, 12, 13, 14, 15, 16, 17, 18, 19, 20, 21, 22]) rfl (by kernel_rfl) (by kernel_rfl) (by kernel_rfl) (by kernel_rfl) (by kernel_rfl) (fun _ _ _ h => h) (Or.inl ⟨by rfl, ?_⟩) (by assumption) ?_
      rotate_left
      · intro w hSw; (try dsimp only at hSw); go_simp; try with_reducible rfl
      try simp only [Act.put, List.setIfInBounds_toArray, List.set_cons_zero, List.set_cons_succ]
      refine wpAnyG_takeM (i := 5) (oi := { dst := some 53, op := Op.load 27 (Operand.tmp 1), type := 27, pos := "law.go:47", after := #[{ on := 2, ground := Ground.guard }], guard := some (2, true) }) (v := ?_) (ms := [6, 7, 8, 9, 10, 11, 12, 13, 14, 15, 16, 17, 18, 19, 20, 21, 22]) rfl (by kernel_rfl) (by kernel_rfl) (by kernel_rfl) (by kernel_rfl) (by kernel_rfl) (fun _ _ _ h => h) (Or.inl ⟨by rfl, ?_⟩) (by assumption) ?_
      rotate_left
      · intro w hSw; (try dsimp only at hSw); go_simp; try with_reducible rfl
      try simp only [Act.put, List.setIfInBounds_toArray, List.set_cons_zero, List.set_cons_succ]
      refine wpAnyG_one (i := 6) (o := { dst := some 54, op := Op.call { callee := Callee.value (Operand.func 23), args := #[Operand.tmp 53], argTypes := #[27] }, type := 52, pos := "law.go:47", after := #[{ on := 5, ground := Ground.data }, { on := 2, ground := Ground.chain }, { on := 2, ground := Ground.guard }], guard := some (2, true) }) (by kernel_rfl) rfl (fun K hK => ?_)
      go_simp
      go_at_call 23
      refine (HRB.out _ HB.out).mono ?_
      rintro e wn ⟨v2, rfl, ho2, hbn⟩
      have HO2 := Lib.hid ho2
      clear ho2
      have HB := Lib.hid (HB.out.trans (hbn.mono HB.out.size))
      have HR := Lib.hid ((hbn.block _ (block_lt HR.out)).trans HR.out)
      have HRg7 := Lib.hid ((hbn.block _ (block_lt HRg7.out)).trans HRg7.out)
      have HT7 := Lib.hid (HT7.out.below hbn)
      have HOB := Lib.hid (recs_below HOB.out hbn)
      clear hbn
      have hHeld := (show (loL 11 wn w.heap.size 0 = [.int .u64 t.num, .string t.loc, .int .i64 t.iss, .slice c.p c.n c.c, .slice x.p x.n x.c, .int .u64 t.prev, .int .u64 t.org, .int .u64 t.fst, .int .i64 t.vou, .int .i64 t.posts, .slice h.p h.n h.c] ∧ okL 11 wn w.heap.size 0) ∧ (loL 11 wn g7 0 = [.int .u64 t.num, .string t.loc, .int .i64 t.iss, .slice q1 n1 z1, .slice q2 n2 z2, .int .u64 t.prev, .int .u64 t.org, .int .u64 t.fst, .int .i64 t.vou, .int .i64 t.posts, .slice q3 n3 z3] ∧ okL 11 wn g7 0) ∧ (convert 52 9 vb).run Try.prog wn = .ok (.string S) wn from ⟨row_loT 11 HR.out rfl rfl, row_loT 11 HRg7.out rfl rfl, HSV.out _ _ (BS.of_own HOB.out)⟩)
      refine hK.out _ _ (.inl hHeld) ?_
      clear hK K
      try simp only [Act.put, List.setIfInBounds_toArray, List.set_cons_zero, List.set_cons_succ]
      refine wpAnyG_one (i := 7) (o := { dst := some 55, op := Op.convert 52 9 (Operand.tmp 54), type := 9, pos := "law.go:47", after := #[{ on := 6, ground := Ground.data }, { on := 2, ground := Ground.guard }], guard := some (2, true) }) (by kernel_rfl) rfl (fun K hK => ?_)
      have hcv := HSV.out _ _ (BS.of_own HO2.out)
      go_simp
      refine hK.out _ _ (.inl hHeld) ?_
      clear hK K
      try simp only [Act.put, List.setIfInBounds_toArray, List.set_cons_zero, List.set_cons_succ]
      clear hcv
      refine wpAnyG_takeU (i := 8) (oi := { dst := some 56, op := Op.binOp BinOp.eql 9 (Operand.tmp 52) (Operand.tmp 55) 9, type := 4, pos := "law.go:47", after := #[{ on := 4, ground := Ground.data }, { on := 7, ground := Ground.data }, { on := 2, ground := Ground.guard }], guard := some (2, true) }) (v := ?_) rfl (by kernel_rfl) (by kernel_rfl) (by kernel_rfl) (by decide) (fun _ _ _ h => h) (Or.inl ⟨by rfl, ?_⟩) (.inl (by assumption)) ?_
      rotate_left
      · intro w hSw; go_simp; try with_reducible rfl
      try simp only [Act.put, List.setIfInBounds_toArray, List.set_cons_zero, List.set_cons_succ]
      refine wpAnyG_takeU (i := 9) (oi := { dst := some 57, op := Op.pick (Operand.tmp 50) (Operand.tmp 56) (Operand.const (Value.bool false)), type := 4, pos := "law.go:47", after := #[{ on := 2, ground := Ground.data }, { on := 8, ground := Ground.data }], guard := none }) (v := ?_) rfl (by kernel_rfl) (by kernel_rfl) (by kernel_rfl) (by decide) (fun _ _ _ h => h) (Or.inl ⟨by rfl, ?_⟩) (.inl (by assumption)) ?_
      rotate_left
      · intro w hSw; go_simp; try with_reducible rfl
      try simp only [Act.put, List.setIfInBounds_toArray, List.set_cons_zero, List.set_cons_succ]
      refine wpAnyG_takeU (i := 10) (oi := { dst := some 58, op := Op.move (Operand.tmp 57), type := 4, pos := "law.go:47", after := #[{ on := 9, ground := Ground.data }, { on := 6, ground := Ground.chain }], guard := none }) (v := ?_) rfl (by kernel_rfl) (by kernel_rfl) (by kernel_rfl) (by decide) (fun _ _ _ h => h) (Or.inl ⟨by rfl, ?_⟩) (.inl (by assumption)) ?_
      rotate_left
      · intro w hSw; go_simp; try with_reducible rfl
      try simp only [Act.put, List.setIfInBounds_toArray, List.set_cons_zero, List.set_cons_succ]
      refine wpAnyG_takeU (i := 11) (oi := { dst := some 59, op := Op.move (Operand.tmp 8), type := 32, pos := "law.go:47", after := #[{ on := 10, ground := Ground.guard }], guard := some (10, true) }) (v := ?_) rfl (by kernel_rfl) (by kernel_rfl) (by kernel_rfl) (by decide) (fun _ _ _ h => h) (Or.inl ⟨by rfl, ?_⟩) (.inl (by assumption)) ?_
      rotate_left
      · intro w hSw; go_simp; try with_reducible rfl
      try simp only [Act.put, List.setIfInBounds_toArray, List.set_cons_zero, List.set_cons_succ]
      refine wpAnyG_takeU (i := 12) (oi := { dst := some 60, op := Op.binOp BinOp.eql 32 (Operand.tmp 59) (Operand.const (Value.int IntKind.i64 0)) 32, type := 4, pos := "law.go:47", after := #[{ on := 11, ground := Ground.data }, { on := 10, ground := Ground.guard }], guard := some (10, true) }) (v := ?_) rfl (by kernel_rfl) (by kernel_rfl) (by kernel_rfl) (by decide) (fun _ _ _ h => h) (Or.inl ⟨by rfl, ?_⟩) (.inl (by assumption)) ?_
      rotate_left
      · intro w hSw; go_simp; try with_reducible rfl
      try simp only [Act.put, List.setIfInBounds_toArray, List.set_cons_zero, List.set_cons_succ]
      refine wpAnyG_takeU (i := 13) (oi := { dst := some 61, op := Op.pick (Operand.tmp 58) (Operand.tmp 60) (Operand.const (Value.bool false)), type := 4, pos := "law.go:47", after := #[{ on := 10, ground := Ground.data }, { on := 12, ground := Ground.data }], guard := none }) (v := ?_) rfl (by kernel_rfl) (by kernel_rfl) (by kernel_rfl) (by decide) (fun _ _ _ h => h) (Or.inl ⟨by rfl, ?_⟩) (.inl (by assumption)) ?_
      rotate_left
      · intro w hSw; go_simp; try with_reducible rfl
      try simp only [Act.put, List.setIfInBounds_toArray, List.set_cons_zero, List.set_cons_succ]
      refine wpAnyG_takeU (i := 14) (oi := { dst := some 62, op := Op.move (Operand.tmp 61), type := 4, pos := "law.go:47", after := #[{ on := 13, ground := Ground.data }, { on := 10, ground := Ground.chain }], guard := none }) (v := ?_) rfl (by kernel_rfl) (by kernel_rfl) (by kernel_rfl) (by decide) (fun _ _ _ h => h) (Or.inl ⟨by rfl, ?_⟩) (.inl (by assumption)) ?_
      rotate_left
      · intro w hSw; go_simp; try with_reducible rfl
      try simp only [Act.put, List.setIfInBounds_toArray, List.set_cons_zero, List.set_cons_succ]
      refine wpAnyG_takeM (i := 15) (oi := { dst := some 63, op := Op.load 27 (Operand.tmp 7), type := 27, pos := "law.go:47", after := #[{ on := 14, ground := Ground.guard }], guard := some (14, true) }) (v := ?_) (ms := [17, 18, 19, 20, 21, 22]) rfl (by kernel_rfl) (by kernel_rfl) (by kernel_rfl) (by kernel_rfl) (by kernel_rfl) (fun _ _ _ h => h) (Or.inl ⟨by rfl, ?_⟩) (by assumption) ?_
      rotate_left
      · intro w hSw; (try dsimp only at hSw); go_simp; try with_reducible rfl
      try simp only [Act.put, List.setIfInBounds_toArray, List.set_cons_zero, List.set_cons_succ]
      refine wpAnyG_takeM (i := 16) (oi := { dst := some 64, op := Op.load 27 (Operand.tmp 1), type := 27, pos := "law.go:47", after := #[{ on := 14, ground := Ground.guard }], guard := some (14, true) }) (v := ?_) (ms := [17, 18, 19, 20, 21, 22]) rfl (by kernel_rfl) (by kernel_rfl) (by kernel_rfl) (by kernel_rfl) (by kernel_rfl) (fun _ _ _ h => h) (Or.inl ⟨by rfl, ?_⟩) (by assumption) ?_
      rotate_left
      · intro w hSw; (try dsimp only at hSw); go_simp; try with_reducible rfl
      try simp only [Act.put, List.setIfInBounds_toArray, List.set_cons_zero, List.set_cons_succ]
      refine wpAnyG_one (i := 17) (o := { dst := some 65, op := Op.call { callee := Callee.value (Operand.func 16), args := #[Operand.tmp 63, Operand.tmp 64], argTypes := #[27, 27] }, type := 4, pos := "law.go:47", after := #[{ on := 15, ground := Ground.data }, { on := 16, ground := Ground.data }, { on := 14, ground := Ground.chain }, { on := 14, ground := Ground.guard }], guard := some (14, true) }) (by kernel_rfl) rfl (fun K hK => ?_)
      go_simp
      go_at_call 16
      refine (rsame_any t t ⟨q1, n1, z1⟩ ⟨q2, n2, z2⟩ ⟨q3, n3, z3⟩ c x h _ HT7.out (HTT.out.below HB.out) true (by simp)).mono ?_
      rintro e wn ⟨rfl, hbn⟩
      have HB := Lib.hid (HB.out.trans (hbn.mono HB.out.size))
      have HR := Lib.hid ((hbn.block _ (block_lt HR.out)).trans HR.out)
      have HRg7 := Lib.hid ((hbn.block _ (block_lt HRg7.out)).trans HRg7.out)
      have HT7 := Lib.hid (HT7.out.below hbn)
      have HOB := Lib.hid (recs_below HOB.out hbn)
      clear hbn
      have hHeld := (show (loL 11 wn w.heap.size 0 = [.int .u64 t.num, .string t.loc, .int .i64 t.iss, .slice c.p c.n c.c, .slice x.p x.n x.c, .int .u64 t.prev, .int .u64 t.org, .int .u64 t.fst, .int .i64 t.vou, .int .i64 t.posts, .slice h.p h.n h.c] ∧ okL 11 wn w.heap.size 0) ∧ (loL 11 wn g7 0 = [.int .u64 t.num, .string t.loc, .int .i64 t.iss, .slice q1 n1 z1, .slice q2 n2 z2, .int .u64 t.prev, .int .u64 t.org, .int .u64 t.fst, .int .i64 t.vou, .int .i64 t.posts, .slice q3 n3 z3] ∧ okL 11 wn g7 0) ∧ (convert 52 9 vb).run Try.prog wn = .ok (.string S) wn from ⟨row_loT 11 HR.out rfl rfl, row_loT 11 HRg7.out rfl rfl, HSV.out _ _ (BS.of_own HOB.out)⟩)
      refine hK.out _ _ (.inl hHeld) ?_
      clear hK K
      try simp only [Act.put, List.setIfInBounds_toArray, List.set_cons_zero, List.set_cons_succ]
      refine wpAnyG_takeU (i := 18) (oi := { dst := some 66, op := Op.pick (Operand.tmp 62) (Operand.tmp 65) (Operand.const (Value.bool false)), type := 4, pos := "law.go:47", after := #[{ on := 14, ground := Ground.data }, { on := 17, ground := Ground.data }], guard := none }) (v := ?_) rfl (by kernel_rfl) (by kernel_rfl) (by kernel_rfl) (by decide) (fun _ _ _ h => h) (Or.inl ⟨by rfl, ?_⟩) (.inl (by assumption)) ?_
      rotate_left
      · intro w hSw; go_simp; try with_reducible rfl
      try simp only [Act.put, List.setIfInBounds_toArray, List.set_cons_zero, List.set_cons_succ]
      refine wpAnyG_takeU (i := 19) (oi := { dst := some 67, op := Op.move (Operand.tmp 66), type := 4, pos := "law.go:47", after := #[{ on := 18, ground := Ground.data }, { on := 17, ground := Ground.chain }], guard := none }) (v := ?_) rfl (by kernel_rfl) (by kernel_rfl) (by kernel_rfl) (by decide) (fun _ _ _ h => h) (Or.inl ⟨by rfl, ?_⟩) (.inl (by assumption)) ?_
      rotate_left
      · intro w hSw; go_simp; try with_reducible rfl
      try simp only [Act.put, List.setIfInBounds_toArray, List.set_cons_zero, List.set_cons_succ]
      refine wpAnyG_one (i := 20) (o := { dst := some 68, op := Op.call { callee := Callee.value (Operand.func 12), args := #[], argTypes := #[] }, type := 4, pos := "law.go:47", after := #[{ on := 19, ground := Ground.chain }, { on := 19, ground := Ground.guard }], guard := some (19, true) }) (by kernel_rfl) rfl (fun K hK => ?_)
      go_simp
      go_at_call 12
      refine (HKN.out _).mono ?_
      rintro e wn ⟨rfl, hbn⟩
      have HB := Lib.hid (HB.out.trans (hbn.mono HB.out.size))
      have HR := Lib.hid ((hbn.block _ (block_lt HR.out)).trans HR.out)
      have HRg7 := Lib.hid ((hbn.block _ (block_lt HRg7.out)).trans HRg7.out)
      have HT7 := Lib.hid (HT7.out.below hbn)
      have HOB := Lib.hid (recs_below HOB.out hbn)
      clear hbn
      have hHeld := (show (loL 11 wn w.heap.size 0 = [.int .u64 t.num, .string t.loc, .int .i64 t.iss, .slice c.p c.n c.c, .slice x.p x.n x.c, .int .u64 t.prev, .int .u64 t.org, .int .u64 t.fst, .int .i64 t.vou, .int .i64 t.posts, .slice h.p h.n h.c] ∧ okL 11 wn w.heap.size 0) ∧ (loL 11 wn g7 0 = [.int .u64 t.num, .string t.loc, .int .i64 t.iss, .slice q1 n1 z1, .slice q2 n2 z2, .int .u64 t.prev, .int .u64 t.org, .int .u64 t.fst, .int .i64 t.vou, .int .i64 t.posts, .slice q3 n3 z3] ∧ okL 11 wn g7 0) ∧ (convert 52 9 vb).run Try.prog wn = .ok (.string S) wn from ⟨row_loT 11 HR.out rfl rfl, row_loT 11 HRg7.out rfl rfl, HSV.out _ _ (BS.of_own HOB.out)⟩)
      refine hK.out _ _ (.inl hHeld) ?_
      clear hK K
      try simp only [Act.put, List.setIfInBounds_toArray, List.set_cons_zero, List.set_cons_succ]
      refine wpAnyG_takeU (i := 21) (oi := { dst := some 69, op := Op.pick (Operand.tmp 67) (Operand.tmp 68) (Operand.const (Value.bool false)), type := 4, pos := "law.go:47", after := #[{ on := 19, ground := Ground.data }, { on := 20, ground := Ground.data }], guard := none }) (v := ?_) rfl (by kernel_rfl) (by kernel_rfl) (by kernel_rfl) (by decide) (fun _ _ _ h => h) (Or.inl ⟨by rfl, ?_⟩) (.inl (by assumption)) ?_
      rotate_left
      · intro w hSw; go_simp; try with_reducible rfl
      try simp only [Act.put, List.setIfInBounds_toArray, List.set_cons_zero, List.set_cons_succ]
      refine wpAnyG_one (i := 22) (o := { dst := some 2, op := Op.assign (Operand.tmp 69), type := 4, pos := "law.go:47", after := #[{ on := 21, ground := Ground.data }, { on := 20, ground := Ground.chain }, { on := 0, ground := Ground.phase }, { on := 1, ground := Ground.phase }, { on := 2, ground := Ground.phase }, { on := 3, ground := Ground.phase }, { on := 4, ground := Ground.phase }, { on := 5, ground := Ground.phase }, { on := 6, ground := Ground.phase }, { on := 7, ground := Ground.phase }, { on := 8, ground := Ground.phase }, { on := 9, ground := Ground.phase }, { on := 10, ground := Ground.phase }, { on := 11, ground := Ground.phase }, { on := 12, ground := Ground.phase }, { on := 13, ground := Ground.phase }, { on := 14, ground := Ground.phase }, { on := 15, ground := Ground.phase }, { on := 16, ground := Ground.phase }, { on := 17, ground := Ground.phase }, { on := 18, ground := Ground.phase }, { on := 19, ground := Ground.phase }, { on := 20, ground := Ground.phase }, { on := 21, ground := Ground.phase }], guard := none }) (by kernel_rfl) rfl (fun K hK => ?_)
      go_simp
      refine hK.out _ _ (.inr rfl) ?_
      clear hK K
      try simp only [Act.put, List.setIfInBounds_toArray, List.set_cons_zero, List.set_cons_succ]
      refine wpAnyG_done (by kernel_rfl) ?_ _
      clear hHeld
      go_wp2
      go_ret
      exact ⟨rfl, HB.out⟩
  · go_enter Try.func6, Try.ntmps6
    go_wp2_with (first | (go_at_call 11; refine (HM.out _ HB.out).mono ?_; rintro e wn ⟨rfl, hbn⟩; have HB := Lib.hid (HB.out.trans (hbn.mono HB.out.size)); have HR := Lib.hid ((hbn.block _ (block_lt HR.out)).trans HR.out); obtain ⟨f1, f2⟩ := row_loT 11 HR.out rfl rfl; clear hbn) | (go_at_call 12; refine (HKN.out _).mono ?_; rintro e wk ⟨rfl, hbk⟩; have HBK := Lib.hid (HB.out.trans (hbk.mono HB.out.size)); clear hbk))
    go_ret
    exact ⟨rfl, HBK.out⟩
set_option maxRecDepth 100000 in
theorem lifted (os : Os) (started : os.Started) (H : Type) (enc : TypeId × Value → H) :
    ReturnsInHanded {} Try.checked os 6 .any (Rows.ticketBytesSpec.pre6 enc Try.prog Try.f6 Rows.ticketBytesRow.domain false) (Rows.ticketBytesSpec.post enc Try.prog Try.f6 false true false false) := by
  refine returnsInHanded_of_change (C := Try.checked) own started (by kernel_rfl) Try.func6
    (ChangeSpec.witness6 (enc := enc) (C := Try.checked) false ⟨#[], #[.agg #[.int .u64 0, .string ⟨#[]⟩, .int .i64 0, .slice none 0 0, .slice none 0 0, .int .u64 0, .int .u64 0, .int .u64 0, .int .i64 0, .int .i64 0, .slice none 0 0]], []⟩ 8 (by kernel_rfl) (by kernel_rfl) (by kernel_rfl) (by kernel_rfl)) ?_
  intro W base args ds gs before hval0 hW hcnd _
  have hval : ∀ (j : Nat) t v, Try.f6.params[j]? = some t → args[j]? = some v → Value.okWide Try.prog W .any base t v := hval0
  have hW' := hW
  obtain ⟨p, q, hA0, hV, rfl, hfz, hnd⟩ := hW
  have hA : DataW.TrodAll enc Try.prog W 0 (fun _ => true) true Try.f6.params.toList args.toList ds p := hA0
  rw [Try.params6] at hA hval
  obtain ⟨v0, vs0, d0, ds0, p0, q0, hargs, rfl, rfl, h0, r0⟩ := trodAll_cons hA
  obtain ⟨rfl, rfl, rfl⟩ := trodAll_nil r0
  obtain rfl : args = #[v0] := by cases args; simp_all
  obtain ⟨t, c, x, h, rfl, hts⟩ := open_ticket (hval 0 _ v0 rfl rfl) h0
  clear hA0 hval0
  refine (walk t c x h W hts).mono fun e W' ⟨he, hg⟩ => ?_
  subst he
  exact ⟨_, rfl, post_law laidOut rfl hW' ⟨rfl, rfl, rfl⟩ (by kernel_rfl) hg Try.underlying4 rfl⟩

theorem proved : Rows.TicketBytesSaid :=
  OpenClaim.holds_of_wide 6 Try.f6 rfl rfl rfl rfl rfl rfl rfl ⟨rfl, rfl, rfl, rfl, rfl⟩ rfl rfl rfl rfl rfl (by kernel_rfl) Try.func6 (by kernel_rfl)
    (of_decide_eq_true (by kernel_rfl)) (by unfold Func.isWrapper; first | (rw [if_pos (by decide +kernel)]; kernel_rfl) | (rw [if_neg (by decide +kernel)]; exact ⟨rfl, rfl⟩))
    (fun os started H enc _ => lifted os started H enc)
#print axioms proved
end Go.Proofs.Ytmadkfahkbdibaa.ticketBytes
