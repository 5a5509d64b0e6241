/- Contract: a ticket's parts are put, in order (way.ticket, with a writer). -/
import Derived.Test.YtbmphlpmipkpcaaGreatRnm21
import Derived.Deep.CutBlock

set_option linter.unusedVariables false
set_option linter.unusedSimpArgs false
namespace Go.Proofs.YtbmphlpmipkpcaaGreat
open Go.RowKit

namespace Tkt
def encC (c : Cpn) : List UInt8 := Wire.be c.fl.toNat 2 ++ Wire.be c.dy.toNat 4 ++ Wire.be c.va.toNat 8 ++ Wire.be c.st.toNat 1 ++ Wire.be c.ho.toNat 2 ++ Wire.be c.nx.toNat 8
def encX (x : Txx) : List UInt8 := Wire.be x.cd.toNat 1 ++ Wire.be x.am.toNat 8
def encE (e : Evt) : List UInt8 := Wire.be e.dy.toNat 4 ++ Wire.be e.co.toNat 1 ++ Wire.be e.fr.toNat 1 ++ Wire.be e.to.toNat 1
/-- a ticket's bytes -/
def encH (t : Tk) : List UInt8 := Wire.be t.num.toNat 8 ++ t.loc.data.toList ++ Wire.be t.iss.toNat 4 ++ Wire.be t.prev.toNat 8 ++ Wire.be t.org.toNat 8 ++ Wire.be t.fst.toNat 8 ++ Wire.be t.vou.toNat 8
def encT (t : Tk) : List UInt8 := encH t ++ Wire.be t.cs.length 1 ++ t.cs.flatMap encC ++ Wire.be t.ts.length 1 ++ t.ts.flatMap encX ++ Wire.be t.posts.toNat 1 ++ Wire.be t.hs.length 1 ++ t.hs.flatMap encE
def fitN (n : Int) (b : Nat) : Prop := 0 ≤ n ∧ n.toNat < b
structure Fits (t : Tk) : Prop where
  num : fitN t.num 18446744073709551616
  loc : t.loc.size ≤ 1000
  iss : fitN t.iss 4294967296
  prev : fitN t.prev 18446744073709551616
  org : fitN t.org 18446744073709551616
  fst : fitN t.fst 18446744073709551616
  vou : fitN t.vou 9223372036854775808
  posts : fitN t.posts 256
  nc : t.cs.length ≤ 20
  nt : t.ts.length ≤ 20
  nh : t.hs.length ≤ 100
  cs : ∀ c ∈ t.cs, fitN c.fl 65536 ∧ fitN c.dy 4294967296 ∧ fitN c.va 9223372036854775808 ∧ fitN c.st 256 ∧ fitN c.ho 65536 ∧ fitN c.nx 18446744073709551616
  ts : ∀ c ∈ t.ts, fitN c.cd 256 ∧ fitN c.am 9223372036854775808
  hs : ∀ c ∈ t.hs, fitN c.dy 4294967296 ∧ fitN c.co 256 ∧ fitN c.fr 256 ∧ fitN c.to 256
theorem fitN.val {n : Int} {b : Nat} (h : fitN n b) : ((n.toNat : Nat) : Int) = n := Int.toNat_of_nonneg h.1
end Tkt
/-- where a ticket's walk stands -/
structure WAt (a W : World) (base bw r g K : Nat) (D : List UInt8) (tk : Array Value) : Prop where
  st : WStep a W base bw K (some D)
  rr : W.heap[r]? = some (.cells #[.pointer (some ⟨bw, 0, none⟩), .pointer none] 167 (0, 0))
  rg : W.heap[g]? = some (.cells tk 27 (0, 0))
theorem WAt.below {a W W' : World} {base bw r g K : Nat} {D : List UInt8} {tk : Array Value} (h : WAt a W base bw r g K D tk) (hb : Below W.heap.size W W') : WAt a W' base bw r g K D tk :=
  ⟨⟨h.st.1.below hb, h.st.2.1.trans (hb.mono (Nat.le_trans h.st.1.lt.1 (Nat.le_of_lt h.st.1.lt.2))), h.st.2.2.trans (Kept.of_below hb)⟩, (hb.block _ (block_lt h.rr)).trans h.rr, (hb.block _ (block_lt h.rg)).trans h.rg⟩
theorem WAt.drew {a W : World} {base bw r g K : Nat} {D : List UInt8} {tk : Array Value} (h : WAt a W base bw r g K D tk) : WAt a W.drew base bw r g K D tk := h.below (Below.refl _ _).drew
theorem WAt.step {a W W' : World} {base bw r g K K' : Nat} {D D' : List UInt8} {tk : Array Value} (h : WAt a W base bw r g K D tk) (hs : WStep W W' base bw K' (some D')) : WAt a W' base bw r g K' D' tk :=
  ⟨h.st.trans hs, hs.2.2.row h.rr (by decide), hs.2.2.row h.rg (by decide)⟩
/-- a row of records, as it is read at its places -/
theorem own_curT {α : Type} {enc : α → List Value} {n : Nat} (hn : ∀ x, (enc x).length = n) (hp : 0 < n) {w : World} {base e m : Nat} {v : Value} {l : List α} (h : w.ownsRow base e n v m (encL enc l)) :
    m = l.length ∧ ((v = .slice none 0 0 ∧ l = []) ∨ ∃ b c cur, v = .slice (some ⟨b, 0, none⟩) m c ∧ m ≤ c ∧ c ≤ maxLen ∧ w.heap[b]? = some (.cells cur e (0, 0)) ∧ ∀ (i j : Nat) (x : α), l[i]? = some x → j < n → cur[i * n + j]? = (enc x)[j]?) := by
  obtain ⟨hm, hor⟩ := recs_cases h hn hp
  refine ⟨hm, ?_⟩
  rcases hor with hz | ⟨b, c, hv, -⟩
  · exact .inl hz
  · subst hv
    rcases h.2 with ⟨h1, -⟩ | ⟨g, cap, cur, e1, hg, hh, hnc, hcm, hcs, htk⟩
    · cases h1
    · injection e1 with e1 e2 e3
      injection e1 with e1
      injection e1 with e1
      subst e1; subst e3
      refine .inr ⟨b, c, cur, by rw [hm], hnc, hcm, hh, fun i j x hx hj => ?_⟩
      rw [← (own_cellT hn (by rw [← hm] at h; exact h) hx hj).1]
      exact (cell_of_row _ _ _ _ _ _ hh).symm

set_option maxRecDepth 8000 in
set_option maxHeartbeats 8000000 in
theorem wticket_any (b0 base bw k : Nat) (l : List UInt8) (t : Tk) (ft : Tkt.Fits t) (c x h : Sl) (hk : k + 20000 ≤ 536870912) (w : World) (g : Nat) (hi : IsW w base bw k (some l)) (hrow : w.heap[g]? = some (.cells #[.int .u64 t.num, .string t.loc, .int .i64 t.iss, .slice c.p c.n c.c, .slice x.p x.n x.c, .int .u64 t.prev, .int .u64 t.org, .int .u64 t.fst, .int .i64 t.vou, .int .i64 t.posts, .slice h.p h.n h.c] 27 (0, 0))) (o1 : w.ownsRow b0 33 6 (.slice c.p c.n c.c) c.n (encL Cpn.cells t.cs)) (o2 : w.ownsRow b0 127 2 (.slice x.p x.n x.c) x.n (encL Txx.cells t.ts)) (o3 : w.ownsRow b0 187 4 (.slice h.p h.n h.c) h.n (encL Evt.cells t.hs)) :
    Calls Tryz.prog 106 #[.agg #[.pointer (some ⟨bw, 0, none⟩), .pointer none], .pointer (some ⟨g, 0, none⟩)] w fun e w' => e = .returned (.tuple #[]) ∧ WStep w w' base bw (k + 20000) (some (l ++ Tkt.encT t)) := by
  obtain ⟨p1, n1, z1⟩ := c
  obtain ⟨p2, n2, z2⟩ := x
  obtain ⟨p3, n3, z3⟩ := h
  simp only at *
  have FT := Lib.hid ft; have HK := Lib.hid hk
  obtain ⟨hn1, ho1⟩ := own_curT Cpn.cells_length (by decide) o1
  obtain ⟨hn2, ho2⟩ := own_curT Txx.cells_length (by decide) o2
  obtain ⟨hn3, ho3⟩ := own_curT Evt.cells_length (by decide) o3
  have hb1 := (Below.refl w.heap.size w).alloc (Nat.le_refl _) (.cells #[.pointer (some ⟨bw, 0, none⟩), .pointer none] 167 (0, 0))
  have HA : Hid (WAt (w.alloc (.cells #[.pointer (some ⟨bw, 0, none⟩), .pointer none] 167 (0, 0))) (w.alloc (.cells #[.pointer (some ⟨bw, 0, none⟩), .pointer none] 167 (0, 0))) base bw w.heap.size g k l #[.int .u64 t.num, .string t.loc, .int .i64 t.iss, .slice p1 n1 z1, .slice p2 n2 z2, .int .u64 t.prev, .int .u64 t.org, .int .u64 t.fst, .int .i64 t.vou, .int .i64 t.posts, .slice p3 n3 z3]) := Lib.hid ⟨WStep.refl (hi.below hb1), new_rowW _ _ _ rfl, row_after hrow⟩
  have HPRE : Hid (∀ W D K, WStep (w.alloc (.cells #[.pointer (some ⟨bw, 0, none⟩), .pointer none] 167 (0, 0))) W base bw K (some D) → WStep w W base bw K (some D)) := Lib.hid (fun W D K hs => WStep.pre hb1 (Nat.le_trans hi.lt.1 (Nat.le_of_lt hi.lt.2)) hs)
  have HO1 := Lib.hid ho1; have HO2 := Lib.hid ho2; have HO3 := Lib.hid ho3
  have HN1 := Lib.hid hn1; have HN2 := Lib.hid hn2; have HN3 := Lib.hid hn3
  have HL : Hid (n1 ≤ 20 ∧ n2 ≤ 20 ∧ n3 ≤ 100) := Lib.hid (by have := ft.nc; have := ft.nt; have := ft.nh; omega)
  have HPO : Hid (∀ (b : Nat) (cu : Array Value) (ty : TypeId), w.heap[b]? = some (.cells cu ty (0, 0)) → (w.alloc (.cells #[.pointer (some ⟨bw, 0, none⟩), .pointer none] 167 (0, 0))).heap[b]? = some (.cells cu ty (0, 0))) := Lib.hid (fun b cu ty h => row_after h)
  clear ft hk hn1 ho1 hn2 ho2 hn3 ho3 hb1 hi hrow o1 o2 o3
  go_enter Tryz.func106, Tryz.ntmps106
  go_wp2_with fail
  obtain ⟨w0, hw0⟩ : ∃ w0, w.alloc (.cells #[.pointer (some ⟨bw, 0, none⟩), .pointer none] 167 (0, 0)) = w0 := ⟨_, rfl⟩
  rw [hw0] at HA HPRE HPO ⊢
  clear hw0
  have HA1 := HA
  generalize hww : w0 = w1 at HA1 ⊢
  have HA : Hid (WAt w0 w1 base bw w.heap.size g k l #[.int .u64 t.num, .string t.loc, .int .i64 t.iss, .slice p1 n1 z1, .slice p2 n2 z2, .int .u64 t.prev, .int .u64 t.org, .int .u64 t.fst, .int .i64 t.vou, .int .i64 t.posts, .slice p3 n3 z3]) := Lib.hid (by rw [← hww]; exact HA.out)
  clear HA1 hww
  refine wp_region_G (C := fun W => W.cell? ⟨w.heap.size, 0, none⟩ = some (.pointer (some ⟨bw, 0, none⟩)) ∧ W.cell? ⟨w.heap.size, 1, none⟩ = some (.pointer none)) (s0 := 6) (by kernel_rfl) ?_
  have HA := Lib.hid HA.out.drew
  generalize w1.drew = wd at *
  have hHeld : (wd.cell? ⟨w.heap.size, 0, none⟩ = some (.pointer (some ⟨bw, 0, none⟩)) ∧ wd.cell? ⟨w.heap.size, 1, none⟩ = some (.pointer none)) := ⟨cell_of_row _ _ 0 _ _ _ HA.out.rr, cell_of_row _ _ 1 _ _ _ HA.out.rr⟩
  refine wpAnyG_takeM (i := 0) (oi := { dst := some 9, op := Op.load 167 (Operand.tmp 2), type := 167, pos := "ticket.go:174", after := #[], guard := none }) (v := ?_) (ms := [1, 6]) rfl (by kernel_rfl) (by kernel_rfl) (by kernel_rfl) (by kernel_rfl) (by kernel_rfl) (fun _ _ _ h => h) (Or.inl ⟨by rfl, ?_⟩) (by assumption) ?_
  rotate_left
  · intro w hSw; (try dsimp only at hSw); go_simp; try with_reducible rfl
  try simp only [Act.put, List.setIfInBounds_toArray, List.set_cons_zero, List.set_cons_succ]
  refine wpAnyG_takeU (i := 1) (oi := { dst := some 10, op := Op.makeFunc (Fn.func 176) #[Operand.tmp 9] #[], type := 231, pos := "ticket.go:174", after := #[{ on := 0, ground := Ground.data }], guard := none }) (v := ?_) rfl (by kernel_rfl) (by kernel_rfl) (by kernel_rfl) (by decide) (fun _ _ _ h => h) (Or.inl ⟨by rfl, ?_⟩) (by first | exact .inl (by assumption) | exact .inr rfl) ?_
  rotate_left
  · intro w hSw; go_simp; try with_reducible rfl
  try simp only [Act.put, List.setIfInBounds_toArray, List.set_cons_zero, List.set_cons_succ]
  refine wpAnyG_takeU (i := 2) (oi := { dst := some 11, op := Op.move (Operand.tmp 1), type := 169, pos := "ticket.go:174", after := #[], guard := none }) (v := ?_) rfl (by kernel_rfl) (by kernel_rfl) (by kernel_rfl) (by decide) (fun _ _ _ h => h) (Or.inl ⟨by rfl, ?_⟩) (by first | exact .inl (by assumption) | exact .inr rfl) ?_
  rotate_left
  · intro w hSw; go_simp; try with_reducible rfl
  try simp only [Act.put, List.setIfInBounds_toArray, List.set_cons_zero, List.set_cons_succ]
  refine wpAnyG_takeU (i := 3) (oi := { dst := some 12, op := Op.nilCheck (Operand.tmp 11), type := 0, pos := "ticket.go:174", after := #[{ on := 2, ground := Ground.data }], guard := none }) (v := ?_) rfl (by kernel_rfl) (by kernel_rfl) (by kernel_rfl) (by decide) (fun _ _ _ h => h) (Or.inl ⟨by rfl, ?_⟩) (by first | exact .inl (by assumption) | exact .inr rfl) ?_
  rotate_left
  · intro w hSw; go_simp; try with_reducible rfl
  try simp only [Act.put, List.setIfInBounds_toArray, List.set_cons_zero, List.set_cons_succ]
  refine wpAnyG_takeU (i := 4) (oi := { dst := some 13, op := Op.fieldAddr 27 (Operand.tmp 12) 0, type := 0, pos := "ticket.go:174", after := #[{ on := 3, ground := Ground.data }], guard := none }) (v := ?_) rfl (by kernel_rfl) (by kernel_rfl) (by kernel_rfl) (by decide) (fun _ _ _ h => h) (Or.inl ⟨by rfl, ?_⟩) (by first | exact .inl (by assumption) | exact .inr rfl) ?_
  rotate_left
  · intro w hSw; go_simp; try with_reducible rfl
  try simp only [Act.put, List.setIfInBounds_toArray, List.set_cons_zero, List.set_cons_succ]
  refine wpAnyG_one (i := 5) (o := { dst := some 14, op := Op.buildSlice 258 1 #[(0, Operand.tmp 13)], type := 258, pos := "ticket.go:174", after := #[{ on := 4, ground := Ground.data }], guard := none }) (by kernel_rfl) rfl (fun K hK => ?_)
  go_simp
  have hbn := (Below.refl wd.heap.size wd).alloc (Nat.le_refl _) (.cells #[.pointer (some ⟨g, 0, none⟩)] 176 (0, 0))
  have HAP := Lib.hid (HA.out.below hbn)
  have HGL := Lib.hid (new_rowW wd (.cells #[.pointer (some ⟨g, 0, none⟩)] 176 (0, 0)) _ rfl)
  clear hbn
  refine hK.out _ _ (.inl ⟨cell_of_row _ _ 0 _ _ _ HAP.out.rr, cell_of_row _ _ 1 _ _ _ HAP.out.rr⟩) ?_
  clear hK K
  try simp only [Act.put, List.setIfInBounds_toArray, List.set_cons_zero, List.set_cons_succ]
  refine wpAnyG_one (i := 6) (o := { dst := some 15, op := Op.call { callee := Callee.value (Operand.func 175), args := #[Operand.tmp 10, Operand.const (Value.int IntKind.i64 8), Operand.tmp 14], argTypes := #[231, 3, 258] }, type := 0, pos := "ticket.go:174", after := #[{ on := 1, ground := Ground.data }, { on := 5, ground := Ground.data }], guard := none }) (by kernel_rfl) rfl (fun K hK => ?_)
  go_simp
  go_at_call 175
  refine (wover_any base bw _ _ [⟨g, 0, (t.num).toNat⟩] _ (by intro p hp; obtain rfl := List.mem_singleton.1 hp; exact ⟨⟨_, _, HAP.out.rg, by decide, (by rw [Tkt.fitN.val FT.out.num]; rfl)⟩, (FT.out.num).2⟩) (by simp) (by have := HK.out; simp; omega) HAP.out.st.1 _ 1 (by simp) HGL.out).mono ?_
  rintro e wq ⟨rfl, hst⟩
  have HA := Lib.hid (HAP.out.step hst)
  clear hst HAP HGL
  refine hK.out _ _ (.inr rfl) ?_
  clear hK K
  try simp only [Act.put, List.setIfInBounds_toArray, List.set_cons_zero, List.set_cons_succ]
  refine wpAnyG_done (by kernel_rfl) ?_ _
  clear hHeld
  go_wp2_with fail
  refine wp_region_G (C := fun W => W.cell? ⟨w.heap.size, 0, none⟩ = some (.pointer (some ⟨bw, 0, none⟩)) ∧ W.cell? ⟨w.heap.size, 1, none⟩ = some (.pointer none)) (s0 := 4) (by kernel_rfl) ?_
  have HA := Lib.hid HA.out.drew
  generalize wq.drew = wd at *
  have hHeld : (wd.cell? ⟨w.heap.size, 0, none⟩ = some (.pointer (some ⟨bw, 0, none⟩)) ∧ wd.cell? ⟨w.heap.size, 1, none⟩ = some (.pointer none)) := ⟨cell_of_row _ _ 0 _ _ _ HA.out.rr, cell_of_row _ _ 1 _ _ _ HA.out.rr⟩
  refine wpAnyG_takeM (i := 0) (oi := { dst := some 16, op := Op.load 167 (Operand.tmp 2), type := 167, pos := "ticket.go:175", after := #[], guard := none }) (v := ?_) (ms := [4]) rfl (by kernel_rfl) (by kernel_rfl) (by kernel_rfl) (by kernel_rfl) (by kernel_rfl) (fun _ _ _ h => h) (Or.inl ⟨by rfl, ?_⟩) (by assumption) ?_
  rotate_left
  · intro w hSw; (try dsimp only at hSw); go_simp; try with_reducible rfl
  try simp only [Act.put, List.setIfInBounds_toArray, List.set_cons_zero, List.set_cons_succ]
  refine wpAnyG_takeU (i := 1) (oi := { dst := some 17, op := Op.move (Operand.tmp 1), type := 169, pos := "ticket.go:175", after := #[], guard := none }) (v := ?_) rfl (by kernel_rfl) (by kernel_rfl) (by kernel_rfl) (by decide) (fun _ _ _ h => h) (Or.inl ⟨by rfl, ?_⟩) (by first | exact .inl (by assumption) | exact .inr rfl) ?_
  rotate_left
  · intro w hSw; go_simp; try with_reducible rfl
  try simp only [Act.put, List.setIfInBounds_toArray, List.set_cons_zero, List.set_cons_succ]
  refine wpAnyG_takeU (i := 2) (oi := { dst := some 18, op := Op.nilCheck (Operand.tmp 17), type := 0, pos := "ticket.go:175", after := #[{ on := 1, ground := Ground.data }], guard := none }) (v := ?_) rfl (by kernel_rfl) (by kernel_rfl) (by kernel_rfl) (by decide) (fun _ _ _ h => h) (Or.inl ⟨by rfl, ?_⟩) (by first | exact .inl (by assumption) | exact .inr rfl) ?_
  rotate_left
  · intro w hSw; go_simp; try with_reducible rfl
  try simp only [Act.put, List.setIfInBounds_toArray, List.set_cons_zero, List.set_cons_succ]
  refine wpAnyG_takeU (i := 3) (oi := { dst := some 19, op := Op.fieldAddr 27 (Operand.tmp 18) 1, type := 0, pos := "ticket.go:175", after := #[{ on := 2, ground := Ground.data }], guard := none }) (v := ?_) rfl (by kernel_rfl) (by kernel_rfl) (by kernel_rfl) (by decide) (fun _ _ _ h => h) (Or.inl ⟨by rfl, ?_⟩) (by first | exact .inl (by assumption) | exact .inr rfl) ?_
  rotate_left
  · intro w hSw; go_simp; try with_reducible rfl
  try simp only [Act.put, List.setIfInBounds_toArray, List.set_cons_zero, List.set_cons_succ]
  refine wpAnyG_one (i := 4) (o := { dst := some 20, op := Op.call { callee := Callee.value (Operand.func 177), args := #[Operand.tmp 16, Operand.tmp 19], argTypes := #[167, 233] }, type := 0, pos := "ticket.go:175", after := #[{ on := 0, ground := Ground.data }, { on := 3, ground := Ground.data }], guard := none }) (by kernel_rfl) rfl (fun K hK => ?_)
  go_simp
  go_at_call 177
  refine (wtextT_any base bw _ _ t.loc FT.out.loc (by have := HK.out; have := FT.out.loc; simp; omega) _ HA.out.st.1 g 1 _ _ HA.out.rg (by decide) rfl).mono ?_
  rintro e wq ⟨rfl, hst⟩
  have HA := Lib.hid (HA.out.step hst)
  clear hst
  refine hK.out _ _ (.inr rfl) ?_
  clear hK K
  try simp only [Act.put, List.setIfInBounds_toArray, List.set_cons_zero, List.set_cons_succ]
  refine wpAnyG_done (by kernel_rfl) ?_ _
  clear hHeld
  go_wp2_with fail
  refine wp_region_G (C := fun W => W.cell? ⟨w.heap.size, 0, none⟩ = some (.pointer (some ⟨bw, 0, none⟩)) ∧ W.cell? ⟨w.heap.size, 1, none⟩ = some (.pointer none)) (s0 := 4) (by kernel_rfl) ?_
  have HA := Lib.hid HA.out.drew
  generalize wq.drew = wd at *
  have hHeld : (wd.cell? ⟨w.heap.size, 0, none⟩ = some (.pointer (some ⟨bw, 0, none⟩)) ∧ wd.cell? ⟨w.heap.size, 1, none⟩ = some (.pointer none)) := ⟨cell_of_row _ _ 0 _ _ _ HA.out.rr, cell_of_row _ _ 1 _ _ _ HA.out.rr⟩
  refine wpAnyG_takeM (i := 0) (oi := { dst := some 21, op := Op.load 167 (Operand.tmp 2), type := 167, pos := "ticket.go:176", after := #[], guard := none }) (v := ?_) (ms := [4]) rfl (by kernel_rfl) (by kernel_rfl) (by kernel_rfl) (by kernel_rfl) (by kernel_rfl) (fun _ _ _ h => h) (Or.inl ⟨by rfl, ?_⟩) (by assumption) ?_
  rotate_left
  · intro w hSw; (try dsimp only at hSw); go_simp; try with_reducible rfl
  try simp only [Act.put, List.setIfInBounds_toArray, List.set_cons_zero, List.set_cons_succ]
  refine wpAnyG_takeU (i := 1) (oi := { dst := some 22, op := Op.move (Operand.tmp 1), type := 169, pos := "ticket.go:176", after := #[], guard := none }) (v := ?_) rfl (by kernel_rfl) (by kernel_rfl) (by kernel_rfl) (by decide) (fun _ _ _ h => h) (Or.inl ⟨by rfl, ?_⟩) (by first | exact .inl (by assumption) | exact .inr rfl) ?_
  rotate_left
  · intro w hSw; go_simp; try with_reducible rfl
  try simp only [Act.put, List.setIfInBounds_toArray, List.set_cons_zero, List.set_cons_succ]
  refine wpAnyG_takeU (i := 2) (oi := { dst := some 23, op := Op.nilCheck (Operand.tmp 22), type := 0, pos := "ticket.go:176", after := #[{ on := 1, ground := Ground.data }], guard := none }) (v := ?_) rfl (by kernel_rfl) (by kernel_rfl) (by kernel_rfl) (by decide) (fun _ _ _ h => h) (Or.inl ⟨by rfl, ?_⟩) (by first | exact .inl (by assumption) | exact .inr rfl) ?_
  rotate_left
  · intro w hSw; go_simp; try with_reducible rfl
  try simp only [Act.put, List.setIfInBounds_toArray, List.set_cons_zero, List.set_cons_succ]
  refine wpAnyG_takeU (i := 3) (oi := { dst := some 24, op := Op.fieldAddr 27 (Operand.tmp 23) 2, type := 0, pos := "ticket.go:176", after := #[{ on := 2, ground := Ground.data }], guard := none }) (v := ?_) rfl (by kernel_rfl) (by kernel_rfl) (by kernel_rfl) (by decide) (fun _ _ _ h => h) (Or.inl ⟨by rfl, ?_⟩) (by first | exact .inl (by assumption) | exact .inr rfl) ?_
  rotate_left
  · intro w hSw; go_simp; try with_reducible rfl
  try simp only [Act.put, List.setIfInBounds_toArray, List.set_cons_zero, List.set_cons_succ]
  refine wpAnyG_one (i := 4) (o := { dst := some 25, op := Op.call { callee := Callee.value (Operand.func 178), args := #[Operand.tmp 21, Operand.tmp 24, Operand.const (Value.int IntKind.i64 4)], argTypes := #[167, 178, 3] }, type := 0, pos := "ticket.go:176", after := #[{ on := 0, ground := Ground.data }, { on := 3, ground := Ground.data }], guard := none }) (by kernel_rfl) rfl (fun K hK => ?_)
  go_simp
  go_at_call 178
  refine (wwhole_any base bw _ _ (t.iss).toNat 4 (by decide) (by have := (FT.out.iss).2; omega) (by have := (FT.out.iss).2; omega) (by have := HK.out; have := FT.out.loc; simp; omega) _ HA.out.st.1 g (2) _ _ HA.out.rg (by decide) (by rw [Tkt.fitN.val FT.out.iss]; rfl)).mono ?_
  rintro e wq ⟨rfl, hst⟩
  have HA := Lib.hid (HA.out.step hst)
  clear hst
  refine hK.out _ _ (.inr rfl) ?_
  clear hK K
  try simp only [Act.put, List.setIfInBounds_toArray, List.set_cons_zero, List.set_cons_succ]
  refine wpAnyG_done (by kernel_rfl) ?_ _
  clear hHeld
  go_wp2_with fail
  refine wp_region_G (C := fun W => W.cell? ⟨w.heap.size, 0, none⟩ = some (.pointer (some ⟨bw, 0, none⟩)) ∧ W.cell? ⟨w.heap.size, 1, none⟩ = some (.pointer none)) (s0 := 12) (by kernel_rfl) ?_
  have HA := Lib.hid HA.out.drew
  generalize wq.drew = wd at *
  have hHeld : (wd.cell? ⟨w.heap.size, 0, none⟩ = some (.pointer (some ⟨bw, 0, none⟩)) ∧ wd.cell? ⟨w.heap.size, 1, none⟩ = some (.pointer none)) := ⟨cell_of_row _ _ 0 _ _ _ HA.out.rr, cell_of_row _ _ 1 _ _ _ HA.out.rr⟩
  refine wpAnyG_takeM (i := 0) (oi := { dst := some 26, op := Op.load 167 (Operand.tmp 2), type := 167, pos := "ticket.go:177", after := #[], guard := none }) (v := ?_) (ms := [1, 12]) rfl (by kernel_rfl) (by kernel_rfl) (by kernel_rfl) (by kernel_rfl) (by kernel_rfl) (fun _ _ _ h => h) (Or.inl ⟨by rfl, ?_⟩) (by assumption) ?_
  rotate_left
  · intro w hSw; (try dsimp only at hSw); go_simp; try with_reducible rfl
  try simp only [Act.put, List.setIfInBounds_toArray, List.set_cons_zero, List.set_cons_succ]
  refine wpAnyG_takeU (i := 1) (oi := { dst := some 27, op := Op.makeFunc (Fn.func 176) #[Operand.tmp 26] #[], type := 231, pos := "ticket.go:177", after := #[{ on := 0, ground := Ground.data }], guard := none }) (v := ?_) rfl (by kernel_rfl) (by kernel_rfl) (by kernel_rfl) (by decide) (fun _ _ _ h => h) (Or.inl ⟨by rfl, ?_⟩) (by first | exact .inl (by assumption) | exact .inr rfl) ?_
  rotate_left
  · intro w hSw; go_simp; try with_reducible rfl
  try simp only [Act.put, List.setIfInBounds_toArray, List.set_cons_zero, List.set_cons_succ]
  refine wpAnyG_takeU (i := 2) (oi := { dst := some 28, op := Op.move (Operand.tmp 1), type := 169, pos := "ticket.go:177", after := #[], guard := none }) (v := ?_) rfl (by kernel_rfl) (by kernel_rfl) (by kernel_rfl) (by decide) (fun _ _ _ h => h) (Or.inl ⟨by rfl, ?_⟩) (by first | exact .inl (by assumption) | exact .inr rfl) ?_
  rotate_left
  · intro w hSw; go_simp; try with_reducible rfl
  try simp only [Act.put, List.setIfInBounds_toArray, List.set_cons_zero, List.set_cons_succ]
  refine wpAnyG_takeU (i := 3) (oi := { dst := some 29, op := Op.nilCheck (Operand.tmp 28), type := 0, pos := "ticket.go:177", after := #[{ on := 2, ground := Ground.data }], guard := none }) (v := ?_) rfl (by kernel_rfl) (by kernel_rfl) (by kernel_rfl) (by decide) (fun _ _ _ h => h) (Or.inl ⟨by rfl, ?_⟩) (by first | exact .inl (by assumption) | exact .inr rfl) ?_
  rotate_left
  · intro w hSw; go_simp; try with_reducible rfl
  try simp only [Act.put, List.setIfInBounds_toArray, List.set_cons_zero, List.set_cons_succ]
  refine wpAnyG_takeU (i := 4) (oi := { dst := some 30, op := Op.fieldAddr 27 (Operand.tmp 29) 5, type := 0, pos := "ticket.go:177", after := #[{ on := 3, ground := Ground.data }], guard := none }) (v := ?_) rfl (by kernel_rfl) (by kernel_rfl) (by kernel_rfl) (by decide) (fun _ _ _ h => h) (Or.inl ⟨by rfl, ?_⟩) (by first | exact .inl (by assumption) | exact .inr rfl) ?_
  rotate_left
  · intro w hSw; go_simp; try with_reducible rfl
  try simp only [Act.put, List.setIfInBounds_toArray, List.set_cons_zero, List.set_cons_succ]
  refine wpAnyG_takeU (i := 5) (oi := { dst := some 31, op := Op.move (Operand.tmp 1), type := 169, pos := "ticket.go:177", after := #[], guard := none }) (v := ?_) rfl (by kernel_rfl) (by kernel_rfl) (by kernel_rfl) (by decide) (fun _ _ _ h => h) (Or.inl ⟨by rfl, ?_⟩) (by first | exact .inl (by assumption) | exact .inr rfl) ?_
  rotate_left
  · intro w hSw; go_simp; try with_reducible rfl
  try simp only [Act.put, List.setIfInBounds_toArray, List.set_cons_zero, List.set_cons_succ]
  refine wpAnyG_takeU (i := 6) (oi := { dst := some 32, op := Op.nilCheck (Operand.tmp 31), type := 0, pos := "ticket.go:177", after := #[{ on := 5, ground := Ground.data }], guard := none }) (v := ?_) rfl (by kernel_rfl) (by kernel_rfl) (by kernel_rfl) (by decide) (fun _ _ _ h => h) (Or.inl ⟨by rfl, ?_⟩) (by first | exact .inl (by assumption) | exact .inr rfl) ?_
  rotate_left
  · intro w hSw; go_simp; try with_reducible rfl
  try simp only [Act.put, List.setIfInBounds_toArray, List.set_cons_zero, List.set_cons_succ]
  refine wpAnyG_takeU (i := 7) (oi := { dst := some 33, op := Op.fieldAddr 27 (Operand.tmp 32) 6, type := 0, pos := "ticket.go:177", after := #[{ on := 6, ground := Ground.data }], guard := none }) (v := ?_) rfl (by kernel_rfl) (by kernel_rfl) (by kernel_rfl) (by decide) (fun _ _ _ h => h) (Or.inl ⟨by rfl, ?_⟩) (by first | exact .inl (by assumption) | exact .inr rfl) ?_
  rotate_left
  · intro w hSw; go_simp; try with_reducible rfl
  try simp only [Act.put, List.setIfInBounds_toArray, List.set_cons_zero, List.set_cons_succ]
  refine wpAnyG_takeU (i := 8) (oi := { dst := some 34, op := Op.move (Operand.tmp 1), type := 169, pos := "ticket.go:177", after := #[], guard := none }) (v := ?_) rfl (by kernel_rfl) (by kernel_rfl) (by kernel_rfl) (by decide) (fun _ _ _ h => h) (Or.inl ⟨by rfl, ?_⟩) (by first | exact .inl (by assumption) | exact .inr rfl) ?_
  rotate_left
  · intro w hSw; go_simp; try with_reducible rfl
  try simp only [Act.put, List.setIfInBounds_toArray, List.set_cons_zero, List.set_cons_succ]
  refine wpAnyG_takeU (i := 9) (oi := { dst := some 35, op := Op.nilCheck (Operand.tmp 34), type := 0, pos := "ticket.go:177", after := #[{ on := 8, ground := Ground.data }], guard := none }) (v := ?_) rfl (by kernel_rfl) (by kernel_rfl) (by kernel_rfl) (by decide) (fun _ _ _ h => h) (Or.inl ⟨by rfl, ?_⟩) (by first | exact .inl (by assumption) | exact .inr rfl) ?_
  rotate_left
  · intro w hSw; go_simp; try with_reducible rfl
  try simp only [Act.put, List.setIfInBounds_toArray, List.set_cons_zero, List.set_cons_succ]
  refine wpAnyG_takeU (i := 10) (oi := { dst := some 36, op := Op.fieldAddr 27 (Operand.tmp 35) 7, type := 0, pos := "ticket.go:177", after := #[{ on := 9, ground := Ground.data }], guard := none }) (v := ?_) rfl (by kernel_rfl) (by kernel_rfl) (by kernel_rfl) (by decide) (fun _ _ _ h => h) (Or.inl ⟨by rfl, ?_⟩) (by first | exact .inl (by assumption) | exact .inr rfl) ?_
  rotate_left
  · intro w hSw; go_simp; try with_reducible rfl
  try simp only [Act.put, List.setIfInBounds_toArray, List.set_cons_zero, List.set_cons_succ]
  refine wpAnyG_one (i := 11) (o := { dst := some 37, op := Op.buildSlice 258 3 #[(0, Operand.tmp 30), (1, Operand.tmp 33), (2, Operand.tmp 36)], type := 258, pos := "ticket.go:177", after := #[{ on := 4, ground := Ground.data }, { on := 7, ground := Ground.data }, { on := 10, ground := Ground.data }], guard := none }) (by kernel_rfl) rfl (fun K hK => ?_)
  go_simp
  have hbn := (Below.refl wd.heap.size wd).alloc (Nat.le_refl _) (.cells #[.pointer (some ⟨g, 5, none⟩), .pointer (some ⟨g, 6, none⟩), .pointer (some ⟨g, 7, none⟩)] 176 (0, 0))
  have HAP := Lib.hid (HA.out.below hbn)
  have HGL := Lib.hid (new_rowW wd (.cells #[.pointer (some ⟨g, 5, none⟩), .pointer (some ⟨g, 6, none⟩), .pointer (some ⟨g, 7, none⟩)] 176 (0, 0)) _ rfl)
  clear hbn
  refine hK.out _ _ (.inl ⟨cell_of_row _ _ 0 _ _ _ HAP.out.rr, cell_of_row _ _ 1 _ _ _ HAP.out.rr⟩) ?_
  clear hK K
  try simp only [Act.put, List.setIfInBounds_toArray, List.set_cons_zero, List.set_cons_succ]
  refine wpAnyG_one (i := 12) (o := { dst := some 38, op := Op.call { callee := Callee.value (Operand.func 175), args := #[Operand.tmp 27, Operand.const (Value.int IntKind.i64 8), Operand.tmp 37], argTypes := #[231, 3, 258] }, type := 0, pos := "ticket.go:177", after := #[{ on := 1, ground := Ground.data }, { on := 11, ground := Ground.data }], guard := none }) (by kernel_rfl) rfl (fun K hK => ?_)
  go_simp
  go_at_call 175
  refine (wover_any base bw _ _ [⟨g, 5, (t.prev).toNat⟩, ⟨g, 6, (t.org).toNat⟩, ⟨g, 7, (t.fst).toNat⟩] _ (by intro p hp; simp only [List.mem_cons, List.not_mem_nil, or_false] at hp; rcases hp with rfl | rfl | rfl <;> first | exact ⟨⟨_, _, HAP.out.rg, by decide, (by rw [Tkt.fitN.val FT.out.prev]; rfl)⟩, (FT.out.prev).2⟩ | exact ⟨⟨_, _, HAP.out.rg, by decide, (by rw [Tkt.fitN.val FT.out.org]; rfl)⟩, (FT.out.org).2⟩ | exact ⟨⟨_, _, HAP.out.rg, by decide, (by rw [Tkt.fitN.val FT.out.fst]; rfl)⟩, (FT.out.fst).2⟩) (by simp) (by have := HK.out; have := FT.out.loc; simp; omega) HAP.out.st.1 _ 3 (by simp) HGL.out).mono ?_
  rintro e wq ⟨rfl, hst⟩
  have HA := Lib.hid (HAP.out.step hst)
  clear hst HAP HGL
  refine hK.out _ _ (.inr rfl) ?_
  clear hK K
  try simp only [Act.put, List.setIfInBounds_toArray, List.set_cons_zero, List.set_cons_succ]
  refine wpAnyG_done (by kernel_rfl) ?_ _
  clear hHeld
  go_wp2_with fail
  refine wp_region_G (C := fun W => W.cell? ⟨w.heap.size, 0, none⟩ = some (.pointer (some ⟨bw, 0, none⟩)) ∧ W.cell? ⟨w.heap.size, 1, none⟩ = some (.pointer none)) (s0 := 4) (by kernel_rfl) ?_
  have HA := Lib.hid HA.out.drew
  generalize wq.drew = wd at *
  have hHeld : (wd.cell? ⟨w.heap.size, 0, none⟩ = some (.pointer (some ⟨bw, 0, none⟩)) ∧ wd.cell? ⟨w.heap.size, 1, none⟩ = some (.pointer none)) := ⟨cell_of_row _ _ 0 _ _ _ HA.out.rr, cell_of_row _ _ 1 _ _ _ HA.out.rr⟩
  refine wpAnyG_takeM (i := 0) (oi := { dst := some 39, op := Op.load 167 (Operand.tmp 2), type := 167, pos := "ticket.go:178", after := #[], guard := none }) (v := ?_) (ms := [4]) rfl (by kernel_rfl) (by kernel_rfl) (by kernel_rfl) (by kernel_rfl) (by kernel_rfl) (fun _ _ _ h => h) (Or.inl ⟨by rfl, ?_⟩) (by assumption) ?_
  rotate_left
  · intro w hSw; (try dsimp only at hSw); go_simp; try with_reducible rfl
  try simp only [Act.put, List.setIfInBounds_toArray, List.set_cons_zero, List.set_cons_succ]
  refine wpAnyG_takeU (i := 1) (oi := { dst := some 40, op := Op.move (Operand.tmp 1), type := 169, pos := "ticket.go:178", after := #[], guard := none }) (v := ?_) rfl (by kernel_rfl) (by kernel_rfl) (by kernel_rfl) (by decide) (fun _ _ _ h => h) (Or.inl ⟨by rfl, ?_⟩) (by first | exact .inl (by assumption) | exact .inr rfl) ?_
  rotate_left
  · intro w hSw; go_simp; try with_reducible rfl
  try simp only [Act.put, List.setIfInBounds_toArray, List.set_cons_zero, List.set_cons_succ]
  refine wpAnyG_takeU (i := 2) (oi := { dst := some 41, op := Op.nilCheck (Operand.tmp 40), type := 0, pos := "ticket.go:178", after := #[{ on := 1, ground := Ground.data }], guard := none }) (v := ?_) rfl (by kernel_rfl) (by kernel_rfl) (by kernel_rfl) (by decide) (fun _ _ _ h => h) (Or.inl ⟨by rfl, ?_⟩) (by first | exact .inl (by assumption) | exact .inr rfl) ?_
  rotate_left
  · intro w hSw; go_simp; try with_reducible rfl
  try simp only [Act.put, List.setIfInBounds_toArray, List.set_cons_zero, List.set_cons_succ]
  refine wpAnyG_takeU (i := 3) (oi := { dst := some 42, op := Op.fieldAddr 27 (Operand.tmp 41) 8, type := 0, pos := "ticket.go:178", after := #[{ on := 2, ground := Ground.data }], guard := none }) (v := ?_) rfl (by kernel_rfl) (by kernel_rfl) (by kernel_rfl) (by decide) (fun _ _ _ h => h) (Or.inl ⟨by rfl, ?_⟩) (by first | exact .inl (by assumption) | exact .inr rfl) ?_
  rotate_left
  · intro w hSw; go_simp; try with_reducible rfl
  try simp only [Act.put, List.setIfInBounds_toArray, List.set_cons_zero, List.set_cons_succ]
  refine wpAnyG_one (i := 4) (o := { dst := some 43, op := Op.call { callee := Callee.value (Operand.func 179), args := #[Operand.tmp 39, Operand.tmp 42], argTypes := #[167, 171] }, type := 0, pos := "ticket.go:178", after := #[{ on := 0, ground := Ground.data }, { on := 3, ground := Ground.data }], guard := none }) (by kernel_rfl) rfl (fun K hK => ?_)
  go_simp
  go_at_call 179
  refine (wmoney_any base bw _ _ (t.vou).toNat ((FT.out.vou).2) (by have := HK.out; have := FT.out.loc; simp; omega) _ HA.out.st.1 g (8) _ _ HA.out.rg (by decide) (by rw [Tkt.fitN.val FT.out.vou]; rfl)).mono ?_
  rintro e wq ⟨rfl, hst⟩
  have HA := Lib.hid (HA.out.step hst)
  clear hst
  refine hK.out _ _ (.inr rfl) ?_
  clear hK K
  try simp only [Act.put, List.setIfInBounds_toArray, List.set_cons_zero, List.set_cons_succ]
  refine wpAnyG_done (by kernel_rfl) ?_ _
  clear hHeld
  have HA : Hid (WAt w0 wq base bw w.heap.size g (k + 2000) (l ++ Tkt.encH t) #[.int .u64 t.num, .string t.loc, .int .i64 t.iss, .slice p1 n1 z1, .slice p2 n2 z2, .int .u64 t.prev, .int .u64 t.org, .int .u64 t.fst, .int .i64 t.vou, .int .i64 t.posts, .slice p3 n3 z3]) := Lib.hid (by
    have h0 := HA.out
    refine ⟨?_, h0.rr, h0.rg⟩
    have h1 := h0.st.mono (k' := k + 2000) (by have := FT.out.loc; simp; omega)
    simpa [Tkt.encH, numsB, List.append_assoc] using h1)
  go_wp2_with fail
  refine wp_region_G (C := fun W => W.cell? ⟨w.heap.size, 0, none⟩ = some (.pointer (some ⟨bw, 0, none⟩)) ∧ W.cell? ⟨w.heap.size, 1, none⟩ = some (.pointer none) ∧ W.cell? ⟨g, 3, none⟩ = some (.slice p1 n1 z1)) (s0 := 9) (by kernel_rfl) ?_
  have HA := Lib.hid HA.out.drew
  generalize wq.drew = wd at *
  have hHeld : (wd.cell? ⟨w.heap.size, 0, none⟩ = some (.pointer (some ⟨bw, 0, none⟩)) ∧ wd.cell? ⟨w.heap.size, 1, none⟩ = some (.pointer none) ∧ wd.cell? ⟨g, 3, none⟩ = some (.slice p1 n1 z1)) := ⟨cell_of_row _ _ 0 _ _ _ HA.out.rr, cell_of_row _ _ 1 _ _ _ HA.out.rr, cell_of_row _ _ 3 _ _ _ HA.out.rg⟩
  refine wpAnyG_takeU (i := 0) (oi := { dst := some 44, op := Op.move (Operand.tmp 1), type := 169, pos := "ticket.go:179", after := #[], guard := none }) (v := ?_) rfl (by kernel_rfl) (by kernel_rfl) (by kernel_rfl) (by decide) (fun _ _ _ h => h) (Or.inl ⟨by rfl, ?_⟩) (by first | exact .inl (by assumption) | exact .inr rfl) ?_
  rotate_left
  · intro w hSw; go_simp; try with_reducible rfl
  try simp only [Act.put, List.setIfInBounds_toArray, List.set_cons_zero, List.set_cons_succ]
  refine wpAnyG_takeM (i := 1) (oi := { dst := some 45, op := Op.load 167 (Operand.tmp 2), type := 167, pos := "ticket.go:179", after := #[], guard := none }) (v := ?_) (ms := [6, 7, 8, 9]) rfl (by kernel_rfl) (by kernel_rfl) (by kernel_rfl) (by kernel_rfl) (by kernel_rfl) (fun _ _ _ h => h) (Or.inl ⟨by rfl, ?_⟩) (by assumption) ?_
  rotate_left
  · intro w hSw; (try dsimp only at hSw); go_simp; try with_reducible rfl
  try simp only [Act.put, List.setIfInBounds_toArray, List.set_cons_zero, List.set_cons_succ]
  refine wpAnyG_takeU (i := 2) (oi := { dst := some 46, op := Op.move (Operand.tmp 1), type := 169, pos := "ticket.go:179", after := #[], guard := none }) (v := ?_) rfl (by kernel_rfl) (by kernel_rfl) (by kernel_rfl) (by decide) (fun _ _ _ h => h) (Or.inl ⟨by rfl, ?_⟩) (by first | exact .inl (by assumption) | exact .inr rfl) ?_
  rotate_left
  · intro w hSw; go_simp; try with_reducible rfl
  try simp only [Act.put, List.setIfInBounds_toArray, List.set_cons_zero, List.set_cons_succ]
  refine wpAnyG_takeU (i := 3) (oi := { dst := some 47, op := Op.nilCheck (Operand.tmp 46), type := 0, pos := "ticket.go:179", after := #[{ on := 2, ground := Ground.data }], guard := none }) (v := ?_) rfl (by kernel_rfl) (by kernel_rfl) (by kernel_rfl) (by decide) (fun _ _ _ h => h) (Or.inl ⟨by rfl, ?_⟩) (by first | exact .inl (by assumption) | exact .inr rfl) ?_
  rotate_left
  · intro w hSw; go_simp; try with_reducible rfl
  try simp only [Act.put, List.setIfInBounds_toArray, List.set_cons_zero, List.set_cons_succ]
  refine wpAnyG_takeU (i := 4) (oi := { dst := some 48, op := Op.fieldAddr 27 (Operand.tmp 47) 3, type := 0, pos := "ticket.go:179", after := #[{ on := 3, ground := Ground.data }], guard := none }) (v := ?_) rfl (by kernel_rfl) (by kernel_rfl) (by kernel_rfl) (by decide) (fun _ _ _ h => h) (Or.inl ⟨by rfl, ?_⟩) (by first | exact .inl (by assumption) | exact .inr rfl) ?_
  rotate_left
  · intro w hSw; go_simp; try with_reducible rfl
  try simp only [Act.put, List.setIfInBounds_toArray, List.set_cons_zero, List.set_cons_succ]
  refine wpAnyG_takeM (i := 5) (oi := { dst := some 49, op := Op.load 23 (Operand.tmp 48), type := 23, pos := "ticket.go:179", after := #[{ on := 4, ground := Ground.data }], guard := none }) (v := ?_) (ms := [6, 7, 8, 9]) rfl (by kernel_rfl) (by kernel_rfl) (by kernel_rfl) (by kernel_rfl) (by kernel_rfl) (fun _ _ _ h => h) (Or.inl ⟨by rfl, ?_⟩) (by assumption) ?_
  rotate_left
  · intro w hSw; (try dsimp only at hSw); go_simp; try with_reducible rfl
  try simp only [Act.put, List.setIfInBounds_toArray, List.set_cons_zero, List.set_cons_succ]
  refine wpAnyG_one (i := 6) (o := { dst := some 50, op := Op.call { callee := Callee.value (Operand.func 180), args := #[Operand.tmp 45, Operand.tmp 49], argTypes := #[167, 23] }, type := 23, pos := "ticket.go:179", after := #[{ on := 1, ground := Ground.data }, { on := 5, ground := Ground.data }], guard := none }) (by kernel_rfl) rfl (fun K hK => ?_)
  go_simp
  go_at_call 180
  refine (wlistC_any base bw _ _ p1 n1 z1 (by have := HL.out; omega) (by have := HK.out; simp; omega) _ HA.out.st.1).mono ?_
  rintro e wq ⟨rfl, hst⟩
  have HA := Lib.hid (HA.out.step hst)
  clear hst
  refine hK.out _ _ (.inl ⟨cell_of_row _ _ 0 _ _ _ HA.out.rr, cell_of_row _ _ 1 _ _ _ HA.out.rr, cell_of_row _ _ 3 _ _ _ HA.out.rg⟩) ?_
  clear hK K
  try simp only [Act.put, List.setIfInBounds_toArray, List.set_cons_zero, List.set_cons_succ]
  have hHeld : (wq.cell? ⟨w.heap.size, 0, none⟩ = some (.pointer (some ⟨bw, 0, none⟩)) ∧ wq.cell? ⟨w.heap.size, 1, none⟩ = some (.pointer none) ∧ wq.cell? ⟨g, 3, none⟩ = some (.slice p1 n1 z1)) := ⟨cell_of_row _ _ 0 _ _ _ HA.out.rr, cell_of_row _ _ 1 _ _ _ HA.out.rr, cell_of_row _ _ 3 _ _ _ HA.out.rg⟩
  refine wpAnyG_takeU (i := 7) (oi := { dst := some 51, op := Op.nilCheck (Operand.tmp 44), type := 0, pos := "ticket.go:179", after := #[{ on := 0, ground := Ground.data }, { on := 0, ground := Ground.phase }, { on := 1, ground := Ground.phase }, { on := 2, ground := Ground.phase }, { on := 3, ground := Ground.phase }, { on := 4, ground := Ground.phase }, { on := 5, ground := Ground.phase }, { on := 6, ground := Ground.phase }], guard := none }) (v := ?_) rfl (by kernel_rfl) (by kernel_rfl) (by kernel_rfl) (by decide) (fun _ _ _ h => h) (Or.inl ⟨by rfl, ?_⟩) (by first | exact .inl (by assumption) | exact .inr rfl) ?_
  rotate_left
  · intro w hSw; go_simp; try with_reducible rfl
  try simp only [Act.put, List.setIfInBounds_toArray, List.set_cons_zero, List.set_cons_succ]
  refine wpAnyG_takeU (i := 8) (oi := { dst := some 52, op := Op.fieldAddr 27 (Operand.tmp 51) 3, type := 0, pos := "ticket.go:179", after := #[{ on := 7, ground := Ground.data }, { on := 0, ground := Ground.phase }, { on := 1, ground := Ground.phase }, { on := 2, ground := Ground.phase }, { on := 3, ground := Ground.phase }, { on := 4, ground := Ground.phase }, { on := 5, ground := Ground.phase }, { on := 6, ground := Ground.phase }], guard := none }) (v := ?_) rfl (by kernel_rfl) (by kernel_rfl) (by kernel_rfl) (by decide) (fun _ _ _ h => h) (Or.inl ⟨by rfl, ?_⟩) (by first | exact .inl (by assumption) | exact .inr rfl) ?_
  rotate_left
  · intro w hSw; go_simp; try with_reducible rfl
  try simp only [Act.put, List.setIfInBounds_toArray, List.set_cons_zero, List.set_cons_succ]
  refine wpAnyG_one (i := 9) (o := { dst := none, op := Op.store 23 (Operand.tmp 52) (Operand.tmp 50), type := 0, pos := "ticket.go:179", after := #[{ on := 8, ground := Ground.data }, { on := 6, ground := Ground.data }, { on := 6, ground := Ground.chain }, { on := 0, ground := Ground.phase }, { on := 1, ground := Ground.phase }, { on := 2, ground := Ground.phase }, { on := 3, ground := Ground.phase }, { on := 4, ground := Ground.phase }, { on := 5, ground := Ground.phase }, { on := 6, ground := Ground.phase }], guard := none }) (by kernel_rfl) rfl (fun K hK => ?_)
  have kc := fun j => cell_of_row wq g j _ _ _ HA.out.rg
  have kf := fun j => frozen_of_row wq g j _ _ HA.out.rg
  have HID := Lib.hid (setCell_id (o := 3) (v := .slice p1 n1 z1) HA.out.rg rfl)
  go_simp
  rw [HID.out]
  refine hK.out _ _ (.inr rfl) ?_
  clear hK K
  try simp only [Act.put, List.setIfInBounds_toArray, List.set_cons_zero, List.set_cons_succ]
  refine wpAnyG_done (by kernel_rfl) ?_ _
  clear hHeld kc kf HID
  have hcg := fun j => cell_of_row wq g j _ _ _ HA.out.rg
  go_wp2_with fail
  clear hcg
  go_loopw [58] (fun i wr => ∃ j : Nat, j ≤ n1 ∧ i = .int .i64 j ∧ WAt w0 wr base bw w.heap.size g (k + 2009 + 54 * j) (l ++ Tkt.encH t ++ Wire.be n1 1 ++ (t.cs.take j).flatMap Tkt.encC) #[.int .u64 t.num, .string t.loc, .int .i64 t.iss, .slice p1 n1 z1, .slice p2 n2 z2, .int .u64 t.prev, .int .u64 t.org, .int .u64 t.fst, .int .i64 t.vou, .int .i64 t.posts, .slice p3 n3 z3]) (fun i _ => n1 - (intOf i).toNat)
  case atStart => exact ⟨0, Nat.zero_le _, rfl, by simpa [List.append_assoc] using HA.out⟩
  case round =>
    obtain ⟨j, hj, rfl, hrel⟩ := hrel
    have hnb : n1 ≤ 100 := by have := HL.out; omega
    have HA := Lib.hid hrel
    clear hrel
    by_cases hlt : j < n1
    · obtain ⟨y, hy⟩ : ∃ y, t.cs[j]? = some y := ⟨_, List.getElem?_eq_getElem (by have := HN1.out; omega)⟩
      have FC := Lib.hid (FT.out.cs y (List.mem_of_getElem? hy))
      have HX := Lib.hid hy
      rcases HO1.out with ⟨-, he⟩ | ⟨cb, cz, cur, hv, -, -, hrow, hcur⟩
      · rw [he] at hy; cases hy
      injection hv with e1 e2 e3
      subst e1
      subst e3
      clear e2
      have HCB := Lib.hid (HPO.out _ _ _ hrow); have HCUR := Lib.hid hcur
      clear hrow hcur hy
      have hcg := fun j => cell_of_row wr g j _ _ _ HA.out.rg
      go_wp2_with fail
      clear hcg
      refine wp_region_G (C := fun W => W.cell? ⟨w.heap.size, 0, none⟩ = some (.pointer (some ⟨bw, 0, none⟩)) ∧ W.cell? ⟨w.heap.size, 1, none⟩ = some (.pointer none)) (s0 := 4) (by kernel_rfl) ?_
      have HA := Lib.hid HA.out.drew
      generalize wr.drew = wd at *
      have hHeld : (wd.cell? ⟨w.heap.size, 0, none⟩ = some (.pointer (some ⟨bw, 0, none⟩)) ∧ wd.cell? ⟨w.heap.size, 1, none⟩ = some (.pointer none)) := ⟨cell_of_row _ _ 0 _ _ _ HA.out.rr, cell_of_row _ _ 1 _ _ _ HA.out.rr⟩
      refine wpAnyG_takeM (i := 0) (oi := { dst := some 67, op := Op.load 167 (Operand.tmp 2), type := 167, pos := "ticket.go:182", after := #[], guard := none }) (v := ?_) (ms := [4]) rfl (by kernel_rfl) (by kernel_rfl) (by kernel_rfl) (by kernel_rfl) (by kernel_rfl) (fun _ _ _ h => h) (Or.inl ⟨by rfl, ?_⟩) (by assumption) ?_
      rotate_left
      · intro w hSw; (try dsimp only at hSw); go_simp; try with_reducible rfl
      try simp only [Act.put, List.setIfInBounds_toArray, List.set_cons_zero, List.set_cons_succ]
      refine wpAnyG_takeU (i := 1) (oi := { dst := some 68, op := Op.move (Operand.tmp 5), type := 181, pos := "ticket.go:182", after := #[], guard := none }) (v := ?_) rfl (by kernel_rfl) (by kernel_rfl) (by kernel_rfl) (by decide) (fun _ _ _ h => h) (Or.inl ⟨by rfl, ?_⟩) (by first | exact .inl (by assumption) | exact .inr rfl) ?_
      rotate_left
      · intro w hSw; go_simp; try with_reducible rfl
      try simp only [Act.put, List.setIfInBounds_toArray, List.set_cons_zero, List.set_cons_succ]
      refine wpAnyG_takeU (i := 2) (oi := { dst := some 69, op := Op.nilCheck (Operand.tmp 68), type := 0, pos := "ticket.go:182", after := #[{ on := 1, ground := Ground.data }], guard := none }) (v := ?_) rfl (by kernel_rfl) (by kernel_rfl) (by kernel_rfl) (by decide) (fun _ _ _ h => h) (Or.inl ⟨by rfl, ?_⟩) (by first | exact .inl (by assumption) | exact .inr rfl) ?_
      rotate_left
      · intro w hSw; go_simp; try with_reducible rfl
      try simp only [Act.put, List.setIfInBounds_toArray, List.set_cons_zero, List.set_cons_succ]
      refine wpAnyG_takeU (i := 3) (oi := { dst := some 70, op := Op.fieldAddr 33 (Operand.tmp 69) 0, type := 0, pos := "ticket.go:182", after := #[{ on := 2, ground := Ground.data }], guard := none }) (v := ?_) rfl (by kernel_rfl) (by kernel_rfl) (by kernel_rfl) (by decide) (fun _ _ _ h => h) (Or.inl ⟨by rfl, ?_⟩) (by first | exact .inl (by assumption) | exact .inr rfl) ?_
      rotate_left
      · intro w hSw; go_simp; try with_reducible rfl
      try simp only [Act.put, List.setIfInBounds_toArray, List.set_cons_zero, List.set_cons_succ]
      refine wpAnyG_one (i := 4) (o := { dst := some 71, op := Op.call { callee := Callee.value (Operand.func 178), args := #[Operand.tmp 67, Operand.tmp 70, Operand.const (Value.int IntKind.i64 2)], argTypes := #[167, 178, 3] }, type := 0, pos := "ticket.go:182", after := #[{ on := 0, ground := Ground.data }, { on := 3, ground := Ground.data }], guard := none }) (by kernel_rfl) rfl (fun K hK => ?_)
      go_simp
      go_at_call 178
      refine (wwhole_any base bw _ _ (y.fl).toNat 2 (by decide) (by have := (FC.out.1).2; omega) (by have := (FC.out.1).2; omega) (by have := HK.out; have := HL.out; simp; omega) _ HA.out.st.1 cb (j * 6) _ _ (HA.out.st.2.2.row HCB.out (by decide)) (by decide) ((HCUR.out j 0 y HX.out (by decide)).trans (by rw [Tkt.fitN.val FC.out.1]; rfl))).mono ?_
      rintro e wq ⟨rfl, hst⟩
      have HA := Lib.hid (HA.out.step hst)
      clear hst
      refine hK.out _ _ (.inr rfl) ?_
      clear hK K
      try simp only [Act.put, List.setIfInBounds_toArray, List.set_cons_zero, List.set_cons_succ]
      refine wpAnyG_done (by kernel_rfl) ?_ _
      clear hHeld
      go_wp2_with fail
      refine wp_region_G (C := fun W => W.cell? ⟨w.heap.size, 0, none⟩ = some (.pointer (some ⟨bw, 0, none⟩)) ∧ W.cell? ⟨w.heap.size, 1, none⟩ = some (.pointer none)) (s0 := 4) (by kernel_rfl) ?_
      have HA := Lib.hid HA.out.drew
      generalize wq.drew = wd at *
      have hHeld : (wd.cell? ⟨w.heap.size, 0, none⟩ = some (.pointer (some ⟨bw, 0, none⟩)) ∧ wd.cell? ⟨w.heap.size, 1, none⟩ = some (.pointer none)) := ⟨cell_of_row _ _ 0 _ _ _ HA.out.rr, cell_of_row _ _ 1 _ _ _ HA.out.rr⟩
      refine wpAnyG_takeM (i := 0) (oi := { dst := some 72, op := Op.load 167 (Operand.tmp 2), type := 167, pos := "ticket.go:183", after := #[], guard := none }) (v := ?_) (ms := [4]) rfl (by kernel_rfl) (by kernel_rfl) (by kernel_rfl) (by kernel_rfl) (by kernel_rfl) (fun _ _ _ h => h) (Or.inl ⟨by rfl, ?_⟩) (by assumption) ?_
      rotate_left
      · intro w hSw; (try dsimp only at hSw); go_simp; try with_reducible rfl
      try simp only [Act.put, List.setIfInBounds_toArray, List.set_cons_zero, List.set_cons_succ]
      refine wpAnyG_takeU (i := 1) (oi := { dst := some 73, op := Op.move (Operand.tmp 5), type := 181, pos := "ticket.go:183", after := #[], guard := none }) (v := ?_) rfl (by kernel_rfl) (by kernel_rfl) (by kernel_rfl) (by decide) (fun _ _ _ h => h) (Or.inl ⟨by rfl, ?_⟩) (by first | exact .inl (by assumption) | exact .inr rfl) ?_
      rotate_left
      · intro w hSw; go_simp; try with_reducible rfl
      try simp only [Act.put, List.setIfInBounds_toArray, List.set_cons_zero, List.set_cons_succ]
      refine wpAnyG_takeU (i := 2) (oi := { dst := some 74, op := Op.nilCheck (Operand.tmp 73), type := 0, pos := "ticket.go:183", after := #[{ on := 1, ground := Ground.data }], guard := none }) (v := ?_) rfl (by kernel_rfl) (by kernel_rfl) (by kernel_rfl) (by decide) (fun _ _ _ h => h) (Or.inl ⟨by rfl, ?_⟩) (by first | exact .inl (by assumption) | exact .inr rfl) ?_
      rotate_left
      · intro w hSw; go_simp; try with_reducible rfl
      try simp only [Act.put, List.setIfInBounds_toArray, List.set_cons_zero, List.set_cons_succ]
      refine wpAnyG_takeU (i := 3) (oi := { dst := some 75, op := Op.fieldAddr 33 (Operand.tmp 74) 1, type := 0, pos := "ticket.go:183", after := #[{ on := 2, ground := Ground.data }], guard := none }) (v := ?_) rfl (by kernel_rfl) (by kernel_rfl) (by kernel_rfl) (by decide) (fun _ _ _ h => h) (Or.inl ⟨by rfl, ?_⟩) (by first | exact .inl (by assumption) | exact .inr rfl) ?_
      rotate_left
      · intro w hSw; go_simp; try with_reducible rfl
      try simp only [Act.put, List.setIfInBounds_toArray, List.set_cons_zero, List.set_cons_succ]
      refine wpAnyG_one (i := 4) (o := { dst := some 76, op := Op.call { callee := Callee.value (Operand.func 178), args := #[Operand.tmp 72, Operand.tmp 75, Operand.const (Value.int IntKind.i64 4)], argTypes := #[167, 178, 3] }, type := 0, pos := "ticket.go:183", after := #[{ on := 0, ground := Ground.data }, { on := 3, ground := Ground.data }], guard := none }) (by kernel_rfl) rfl (fun K hK => ?_)
      go_simp
      go_at_call 178
      refine (wwhole_any base bw _ _ (y.dy).toNat 4 (by decide) (by have := (FC.out.2.1).2; omega) (by have := (FC.out.2.1).2; omega) (by have := HK.out; have := HL.out; simp; omega) _ HA.out.st.1 cb (j * 6 + 1) _ _ (HA.out.st.2.2.row HCB.out (by decide)) (by decide) ((HCUR.out j 1 y HX.out (by decide)).trans (by rw [Tkt.fitN.val FC.out.2.1]; rfl))).mono ?_
      rintro e wq ⟨rfl, hst⟩
      have HA := Lib.hid (HA.out.step hst)
      clear hst
      refine hK.out _ _ (.inr rfl) ?_
      clear hK K
      try simp only [Act.put, List.setIfInBounds_toArray, List.set_cons_zero, List.set_cons_succ]
      refine wpAnyG_done (by kernel_rfl) ?_ _
      clear hHeld
      go_wp2_with fail
      refine wp_region_G (C := fun W => W.cell? ⟨w.heap.size, 0, none⟩ = some (.pointer (some ⟨bw, 0, none⟩)) ∧ W.cell? ⟨w.heap.size, 1, none⟩ = some (.pointer none)) (s0 := 4) (by kernel_rfl) ?_
      have HA := Lib.hid HA.out.drew
      generalize wq.drew = wd at *
      have hHeld : (wd.cell? ⟨w.heap.size, 0, none⟩ = some (.pointer (some ⟨bw, 0, none⟩)) ∧ wd.cell? ⟨w.heap.size, 1, none⟩ = some (.pointer none)) := ⟨cell_of_row _ _ 0 _ _ _ HA.out.rr, cell_of_row _ _ 1 _ _ _ HA.out.rr⟩
      refine wpAnyG_takeM (i := 0) (oi := { dst := some 77, op := Op.load 167 (Operand.tmp 2), type := 167, pos := "ticket.go:184", after := #[], guard := none }) (v := ?_) (ms := [4]) rfl (by kernel_rfl) (by kernel_rfl) (by kernel_rfl) (by kernel_rfl) (by kernel_rfl) (fun _ _ _ h => h) (Or.inl ⟨by rfl, ?_⟩) (by assumption) ?_
      rotate_left
      · intro w hSw; (try dsimp only at hSw); go_simp; try with_reducible rfl
      try simp only [Act.put, List.setIfInBounds_toArray, List.set_cons_zero, List.set_cons_succ]
      refine wpAnyG_takeU (i := 1) (oi := { dst := some 78, op := Op.move (Operand.tmp 5), type := 181, pos := "ticket.go:184", after := #[], guard := none }) (v := ?_) rfl (by kernel_rfl) (by kernel_rfl) (by kernel_rfl) (by decide) (fun _ _ _ h => h) (Or.inl ⟨by rfl, ?_⟩) (by first | exact .inl (by assumption) | exact .inr rfl) ?_
      rotate_left
      · intro w hSw; go_simp; try with_reducible rfl
      try simp only [Act.put, List.setIfInBounds_toArray, List.set_cons_zero, List.set_cons_succ]
      refine wpAnyG_takeU (i := 2) (oi := { dst := some 79, op := Op.nilCheck (Operand.tmp 78), type := 0, pos := "ticket.go:184", after := #[{ on := 1, ground := Ground.data }], guard := none }) (v := ?_) rfl (by kernel_rfl) (by kernel_rfl) (by kernel_rfl) (by decide) (fun _ _ _ h => h) (Or.inl ⟨by rfl, ?_⟩) (by first | exact .inl (by assumption) | exact .inr rfl) ?_
      rotate_left
      · intro w hSw; go_simp; try with_reducible rfl
      try simp only [Act.put, List.setIfInBounds_toArray, List.set_cons_zero, List.set_cons_succ]
      refine wpAnyG_takeU (i := 3) (oi := { dst := some 80, op := Op.fieldAddr 33 (Operand.tmp 79) 2, type := 0, pos := "ticket.go:184", after := #[{ on := 2, ground := Ground.data }], guard := none }) (v := ?_) rfl (by kernel_rfl) (by kernel_rfl) (by kernel_rfl) (by decide) (fun _ _ _ h => h) (Or.inl ⟨by rfl, ?_⟩) (by first | exact .inl (by assumption) | exact .inr rfl) ?_
      rotate_left
      · intro w hSw; go_simp; try with_reducible rfl
      try simp only [Act.put, List.setIfInBounds_toArray, List.set_cons_zero, List.set_cons_succ]
      refine wpAnyG_one (i := 4) (o := { dst := some 81, op := Op.call { callee := Callee.value (Operand.func 179), args := #[Operand.tmp 77, Operand.tmp 80], argTypes := #[167, 171] }, type := 0, pos := "ticket.go:184", after := #[{ on := 0, ground := Ground.data }, { on := 3, ground := Ground.data }], guard := none }) (by kernel_rfl) rfl (fun K hK => ?_)
      go_simp
      go_at_call 179
      refine (wmoney_any base bw _ _ (y.va).toNat ((FC.out.2.2.1).2) (by have := HK.out; have := HL.out; simp; omega) _ HA.out.st.1 cb (j * 6 + 2) _ _ (HA.out.st.2.2.row HCB.out (by decide)) (by decide) ((HCUR.out j 2 y HX.out (by decide)).trans (by rw [Tkt.fitN.val FC.out.2.2.1]; rfl))).mono ?_
      rintro e wq ⟨rfl, hst⟩
      have HA := Lib.hid (HA.out.step hst)
      clear hst
      refine hK.out _ _ (.inr rfl) ?_
      clear hK K
      try simp only [Act.put, List.setIfInBounds_toArray, List.set_cons_zero, List.set_cons_succ]
      refine wpAnyG_done (by kernel_rfl) ?_ _
      clear hHeld
      go_wp2_with fail
      refine wp_region_G (C := fun W => W.cell? ⟨w.heap.size, 0, none⟩ = some (.pointer (some ⟨bw, 0, none⟩)) ∧ W.cell? ⟨w.heap.size, 1, none⟩ = some (.pointer none)) (s0 := 4) (by kernel_rfl) ?_
      have HA := Lib.hid HA.out.drew
      generalize wq.drew = wd at *
      have hHeld : (wd.cell? ⟨w.heap.size, 0, none⟩ = some (.pointer (some ⟨bw, 0, none⟩)) ∧ wd.cell? ⟨w.heap.size, 1, none⟩ = some (.pointer none)) := ⟨cell_of_row _ _ 0 _ _ _ HA.out.rr, cell_of_row _ _ 1 _ _ _ HA.out.rr⟩
      refine wpAnyG_takeM (i := 0) (oi := { dst := some 82, op := Op.load 167 (Operand.tmp 2), type := 167, pos := "ticket.go:185", after := #[], guard := none }) (v := ?_) (ms := [4]) rfl (by kernel_rfl) (by kernel_rfl) (by kernel_rfl) (by kernel_rfl) (by kernel_rfl) (fun _ _ _ h => h) (Or.inl ⟨by rfl, ?_⟩) (by assumption) ?_
      rotate_left
      · intro w hSw; (try dsimp only at hSw); go_simp; try with_reducible rfl
      try simp only [Act.put, List.setIfInBounds_toArray, List.set_cons_zero, List.set_cons_succ]
      refine wpAnyG_takeU (i := 1) (oi := { dst := some 83, op := Op.move (Operand.tmp 5), type := 181, pos := "ticket.go:185", after := #[], guard := none }) (v := ?_) rfl (by kernel_rfl) (by kernel_rfl) (by kernel_rfl) (by decide) (fun _ _ _ h => h) (Or.inl ⟨by rfl, ?_⟩) (by first | exact .inl (by assumption) | exact .inr rfl) ?_
      rotate_left
      · intro w hSw; go_simp; try with_reducible rfl
      try simp only [Act.put, List.setIfInBounds_toArray, List.set_cons_zero, List.set_cons_succ]
      refine wpAnyG_takeU (i := 2) (oi := { dst := some 84, op := Op.nilCheck (Operand.tmp 83), type := 0, pos := "ticket.go:185", after := #[{ on := 1, ground := Ground.data }], guard := none }) (v := ?_) rfl (by kernel_rfl) (by kernel_rfl) (by kernel_rfl) (by decide) (fun _ _ _ h => h) (Or.inl ⟨by rfl, ?_⟩) (by first | exact .inl (by assumption) | exact .inr rfl) ?_
      rotate_left
      · intro w hSw; go_simp; try with_reducible rfl
      try simp only [Act.put, List.setIfInBounds_toArray, List.set_cons_zero, List.set_cons_succ]
      refine wpAnyG_takeU (i := 3) (oi := { dst := some 85, op := Op.fieldAddr 33 (Operand.tmp 84) 3, type := 0, pos := "ticket.go:185", after := #[{ on := 2, ground := Ground.data }], guard := none }) (v := ?_) rfl (by kernel_rfl) (by kernel_rfl) (by kernel_rfl) (by decide) (fun _ _ _ h => h) (Or.inl ⟨by rfl, ?_⟩) (by first | exact .inl (by assumption) | exact .inr rfl) ?_
      rotate_left
      · intro w hSw; go_simp; try with_reducible rfl
      try simp only [Act.put, List.setIfInBounds_toArray, List.set_cons_zero, List.set_cons_succ]
      refine wpAnyG_one (i := 4) (o := { dst := some 86, op := Op.call { callee := Callee.value (Operand.func 181), args := #[Operand.tmp 82, Operand.tmp 85], argTypes := #[167, 183] }, type := 0, pos := "ticket.go:185", after := #[{ on := 0, ground := Ground.data }, { on := 3, ground := Ground.data }], guard := none }) (by kernel_rfl) rfl (fun K hK => ?_)
      go_simp
      go_at_call 181
      refine (wstatus_any base bw _ _ (y.st).toNat ((FC.out.2.2.2.1).2) (by have := HK.out; have := HL.out; simp; omega) _ HA.out.st.1 cb (j * 6 + 3) _ _ (HA.out.st.2.2.row HCB.out (by decide)) (by decide) ((HCUR.out j 3 y HX.out (by decide)).trans (by rw [Tkt.fitN.val FC.out.2.2.2.1]; rfl))).mono ?_
      rintro e wq ⟨rfl, hst⟩
      have HA := Lib.hid (HA.out.step hst)
      clear hst
      refine hK.out _ _ (.inr rfl) ?_
      clear hK K
      try simp only [Act.put, List.setIfInBounds_toArray, List.set_cons_zero, List.set_cons_succ]
      refine wpAnyG_done (by kernel_rfl) ?_ _
      clear hHeld
      go_wp2_with fail
      refine wp_region_G (C := fun W => W.cell? ⟨w.heap.size, 0, none⟩ = some (.pointer (some ⟨bw, 0, none⟩)) ∧ W.cell? ⟨w.heap.size, 1, none⟩ = some (.pointer none)) (s0 := 4) (by kernel_rfl) ?_
      have HA := Lib.hid HA.out.drew
      generalize wq.drew = wd at *
      have hHeld : (wd.cell? ⟨w.heap.size, 0, none⟩ = some (.pointer (some ⟨bw, 0, none⟩)) ∧ wd.cell? ⟨w.heap.size, 1, none⟩ = some (.pointer none)) := ⟨cell_of_row _ _ 0 _ _ _ HA.out.rr, cell_of_row _ _ 1 _ _ _ HA.out.rr⟩
      refine wpAnyG_takeM (i := 0) (oi := { dst := some 87, op := Op.load 167 (Operand.tmp 2), type := 167, pos := "ticket.go:186", after := #[], guard := none }) (v := ?_) (ms := [4]) rfl (by kernel_rfl) (by kernel_rfl) (by kernel_rfl) (by kernel_rfl) (by kernel_rfl) (fun _ _ _ h => h) (Or.inl ⟨by rfl, ?_⟩) (by assumption) ?_
      rotate_left
      · intro w hSw; (try dsimp only at hSw); go_simp; try with_reducible rfl
      try simp only [Act.put, List.setIfInBounds_toArray, List.set_cons_zero, List.set_cons_succ]
      refine wpAnyG_takeU (i := 1) (oi := { dst := some 88, op := Op.move (Operand.tmp 5), type := 181, pos := "ticket.go:186", after := #[], guard := none }) (v := ?_) rfl (by kernel_rfl) (by kernel_rfl) (by kernel_rfl) (by decide) (fun _ _ _ h => h) (Or.inl ⟨by rfl, ?_⟩) (by first | exact .inl (by assumption) | exact .inr rfl) ?_
      rotate_left
      · intro w hSw; go_simp; try with_reducible rfl
      try simp only [Act.put, List.setIfInBounds_toArray, List.set_cons_zero, List.set_cons_succ]
      refine wpAnyG_takeU (i := 2) (oi := { dst := some 89, op := Op.nilCheck (Operand.tmp 88), type := 0, pos := "ticket.go:186", after := #[{ on := 1, ground := Ground.data }], guard := none }) (v := ?_) rfl (by kernel_rfl) (by kernel_rfl) (by kernel_rfl) (by decide) (fun _ _ _ h => h) (Or.inl ⟨by rfl, ?_⟩) (by first | exact .inl (by assumption) | exact .inr rfl) ?_
      rotate_left
      · intro w hSw; go_simp; try with_reducible rfl
      try simp only [Act.put, List.setIfInBounds_toArray, List.set_cons_zero, List.set_cons_succ]
      refine wpAnyG_takeU (i := 3) (oi := { dst := some 90, op := Op.fieldAddr 33 (Operand.tmp 89) 4, type := 0, pos := "ticket.go:186", after := #[{ on := 2, ground := Ground.data }], guard := none }) (v := ?_) rfl (by kernel_rfl) (by kernel_rfl) (by kernel_rfl) (by decide) (fun _ _ _ h => h) (Or.inl ⟨by rfl, ?_⟩) (by first | exact .inl (by assumption) | exact .inr rfl) ?_
      rotate_left
      · intro w hSw; go_simp; try with_reducible rfl
      try simp only [Act.put, List.setIfInBounds_toArray, List.set_cons_zero, List.set_cons_succ]
      refine wpAnyG_one (i := 4) (o := { dst := some 91, op := Op.call { callee := Callee.value (Operand.func 178), args := #[Operand.tmp 87, Operand.tmp 90, Operand.const (Value.int IntKind.i64 2)], argTypes := #[167, 178, 3] }, type := 0, pos := "ticket.go:186", after := #[{ on := 0, ground := Ground.data }, { on := 3, ground := Ground.data }], guard := none }) (by kernel_rfl) rfl (fun K hK => ?_)
      go_simp
      go_at_call 178
      refine (wwhole_any base bw _ _ (y.ho).toNat 2 (by decide) (by have := (FC.out.2.2.2.2.1).2; omega) (by have := (FC.out.2.2.2.2.1).2; omega) (by have := HK.out; have := HL.out; simp; omega) _ HA.out.st.1 cb (j * 6 + 4) _ _ (HA.out.st.2.2.row HCB.out (by decide)) (by decide) ((HCUR.out j 4 y HX.out (by decide)).trans (by rw [Tkt.fitN.val FC.out.2.2.2.2.1]; rfl))).mono ?_
      rintro e wq ⟨rfl, hst⟩
      have HA := Lib.hid (HA.out.step hst)
      clear hst
      refine hK.out _ _ (.inr rfl) ?_
      clear hK K
      try simp only [Act.put, List.setIfInBounds_toArray, List.set_cons_zero, List.set_cons_succ]
      refine wpAnyG_done (by kernel_rfl) ?_ _
      clear hHeld
      go_wp2_with fail
      refine wp_region_G (C := fun W => W.cell? ⟨w.heap.size, 0, none⟩ = some (.pointer (some ⟨bw, 0, none⟩)) ∧ W.cell? ⟨w.heap.size, 1, none⟩ = some (.pointer none)) (s0 := 6) (by kernel_rfl) ?_
      have HA := Lib.hid HA.out.drew
      generalize wq.drew = wd at *
      have hHeld : (wd.cell? ⟨w.heap.size, 0, none⟩ = some (.pointer (some ⟨bw, 0, none⟩)) ∧ wd.cell? ⟨w.heap.size, 1, none⟩ = some (.pointer none)) := ⟨cell_of_row _ _ 0 _ _ _ HA.out.rr, cell_of_row _ _ 1 _ _ _ HA.out.rr⟩
      refine wpAnyG_takeM (i := 0) (oi := { dst := some 92, op := Op.load 167 (Operand.tmp 2), type := 167, pos := "ticket.go:187", after := #[], guard := none }) (v := ?_) (ms := [1, 6]) rfl (by kernel_rfl) (by kernel_rfl) (by kernel_rfl) (by kernel_rfl) (by kernel_rfl) (fun _ _ _ h => h) (Or.inl ⟨by rfl, ?_⟩) (by assumption) ?_
      rotate_left
      · intro w hSw; (try dsimp only at hSw); go_simp; try with_reducible rfl
      try simp only [Act.put, List.setIfInBounds_toArray, List.set_cons_zero, List.set_cons_succ]
      refine wpAnyG_takeU (i := 1) (oi := { dst := some 93, op := Op.makeFunc (Fn.func 176) #[Operand.tmp 92] #[], type := 231, pos := "ticket.go:187", after := #[{ on := 0, ground := Ground.data }], guard := none }) (v := ?_) rfl (by kernel_rfl) (by kernel_rfl) (by kernel_rfl) (by decide) (fun _ _ _ h => h) (Or.inl ⟨by rfl, ?_⟩) (by first | exact .inl (by assumption) | exact .inr rfl) ?_
      rotate_left
      · intro w hSw; go_simp; try with_reducible rfl
      try simp only [Act.put, List.setIfInBounds_toArray, List.set_cons_zero, List.set_cons_succ]
      refine wpAnyG_takeU (i := 2) (oi := { dst := some 94, op := Op.move (Operand.tmp 5), type := 181, pos := "ticket.go:187", after := #[], guard := none }) (v := ?_) rfl (by kernel_rfl) (by kernel_rfl) (by kernel_rfl) (by decide) (fun _ _ _ h => h) (Or.inl ⟨by rfl, ?_⟩) (by first | exact .inl (by assumption) | exact .inr rfl) ?_
      rotate_left
      · intro w hSw; go_simp; try with_reducible rfl
      try simp only [Act.put, List.setIfInBounds_toArray, List.set_cons_zero, List.set_cons_succ]
      refine wpAnyG_takeU (i := 3) (oi := { dst := some 95, op := Op.nilCheck (Operand.tmp 94), type := 0, pos := "ticket.go:187", after := #[{ on := 2, ground := Ground.data }], guard := none }) (v := ?_) rfl (by kernel_rfl) (by kernel_rfl) (by kernel_rfl) (by decide) (fun _ _ _ h => h) (Or.inl ⟨by rfl, ?_⟩) (by first | exact .inl (by assumption) | exact .inr rfl) ?_
      rotate_left
      · intro w hSw; go_simp; try with_reducible rfl
      try simp only [Act.put, List.setIfInBounds_toArray, List.set_cons_zero, List.set_cons_succ]
      refine wpAnyG_takeU (i := 4) (oi := { dst := some 96, op := Op.fieldAddr 33 (Operand.tmp 95) 5, type := 0, pos := "ticket.go:187", after := #[{ on := 3, ground := Ground.data }], guard := none }) (v := ?_) rfl (by kernel_rfl) (by kernel_rfl) (by kernel_rfl) (by decide) (fun _ _ _ h => h) (Or.inl ⟨by rfl, ?_⟩) (by first | exact .inl (by assumption) | exact .inr rfl) ?_
      rotate_left
      · intro w hSw; go_simp; try with_reducible rfl
      try simp only [Act.put, List.setIfInBounds_toArray, List.set_cons_zero, List.set_cons_succ]
      refine wpAnyG_one (i := 5) (o := { dst := some 97, op := Op.buildSlice 258 1 #[(0, Operand.tmp 96)], type := 258, pos := "ticket.go:187", after := #[{ on := 4, ground := Ground.data }], guard := none }) (by kernel_rfl) rfl (fun K hK => ?_)
      go_simp
      have hbn := (Below.refl wd.heap.size wd).alloc (Nat.le_refl _) (.cells #[.pointer (some ⟨cb, j * 6 + 5, none⟩)] 176 (0, 0))
      have HAP := Lib.hid (HA.out.below hbn)
      have HGL := Lib.hid (new_rowW wd (.cells #[.pointer (some ⟨cb, j * 6 + 5, none⟩)] 176 (0, 0)) _ rfl)
      clear hbn
      refine hK.out _ _ (.inl ⟨cell_of_row _ _ 0 _ _ _ HAP.out.rr, cell_of_row _ _ 1 _ _ _ HAP.out.rr⟩) ?_
      clear hK K
      try simp only [Act.put, List.setIfInBounds_toArray, List.set_cons_zero, List.set_cons_succ]
      refine wpAnyG_one (i := 6) (o := { dst := some 98, op := Op.call { callee := Callee.value (Operand.func 175), args := #[Operand.tmp 93, Operand.const (Value.int IntKind.i64 8), Operand.tmp 97], argTypes := #[231, 3, 258] }, type := 0, pos := "ticket.go:187", after := #[{ on := 1, ground := Ground.data }, { on := 5, ground := Ground.data }], guard := none }) (by kernel_rfl) rfl (fun K hK => ?_)
      go_simp
      go_at_call 175
      refine (wover_any base bw _ _ [⟨cb, j * 6 + 5, (y.nx).toNat⟩] _ (by intro p hp; obtain rfl := List.mem_singleton.1 hp; exact ⟨⟨_, _, (HAP.out.st.2.2.row HCB.out (by decide)), by decide, ((HCUR.out j 5 y HX.out (by decide)).trans (by rw [Tkt.fitN.val FC.out.2.2.2.2.2]; rfl))⟩, (FC.out.2.2.2.2.2).2⟩) (by simp) (by have := HK.out; have := HL.out; simp; omega) HAP.out.st.1 _ 1 (by simp) HGL.out).mono ?_
      rintro e wq ⟨rfl, hst⟩
      have HA := Lib.hid (HAP.out.step hst)
      clear hst HAP HGL
      refine hK.out _ _ (.inr rfl) ?_
      clear hK K
      try simp only [Act.put, List.setIfInBounds_toArray, List.set_cons_zero, List.set_cons_succ]
      refine wpAnyG_done (by kernel_rfl) ?_ _
      clear hHeld
      go_wp2
      go_roundw
      case rel =>
        refine ⟨j + 1, by omega, by go_num, ?_⟩
        have h0 := HA.out
        refine ⟨?_, h0.rr, h0.rg⟩
        have h1 := h0.st.mono (k' := k + 2009 + 54 * (j + 1)) (by first | omega | (simp; omega))
        rw [List.take_add_one, HX.out]
        simpa [Tkt.encC, numsB, List.append_assoc] using h1
      case measure => simp [intOf]; omega
    · obtain rfl : n1 = j := by omega
      have HA := Lib.hid HA.out
      rw [List.take_of_length_le (by have := HN1.out; omega)] at HA
      go_wp2_with fail
      refine wp_region_G (C := fun W => W.cell? ⟨w.heap.size, 0, none⟩ = some (.pointer (some ⟨bw, 0, none⟩)) ∧ W.cell? ⟨w.heap.size, 1, none⟩ = some (.pointer none) ∧ W.cell? ⟨g, 4, none⟩ = some (.slice p2 n2 z2)) (s0 := 9) (by kernel_rfl) ?_
      have HA := Lib.hid HA.out.drew
      generalize wr.drew = wd at *
      have hHeld : (wd.cell? ⟨w.heap.size, 0, none⟩ = some (.pointer (some ⟨bw, 0, none⟩)) ∧ wd.cell? ⟨w.heap.size, 1, none⟩ = some (.pointer none) ∧ wd.cell? ⟨g, 4, none⟩ = some (.slice p2 n2 z2)) := ⟨cell_of_row _ _ 0 _ _ _ HA.out.rr, cell_of_row _ _ 1 _ _ _ HA.out.rr, cell_of_row _ _ 4 _ _ _ HA.out.rg⟩
      refine wpAnyG_takeU (i := 0) (oi := { dst := some 100, op := Op.move (Operand.tmp 1), type := 169, pos := "ticket.go:189", after := #[], guard := none }) (v := ?_) rfl (by kernel_rfl) (by kernel_rfl) (by kernel_rfl) (by decide) (fun _ _ _ h => h) (Or.inl ⟨by rfl, ?_⟩) (by first | exact .inl (by assumption) | exact .inr rfl) ?_
      rotate_left
      · intro w hSw; go_simp; try with_reducible rfl
      try simp only [Act.put, List.setIfInBounds_toArray, List.set_cons_zero, List.set_cons_succ]
      refine wpAnyG_takeM (i := 1) (oi := { dst := some 101, op := Op.load 167 (Operand.tmp 2), type := 167, pos := "ticket.go:189", after := #[], guard := none }) (v := ?_) (ms := [6, 7, 8, 9]) rfl (by kernel_rfl) (by kernel_rfl) (by kernel_rfl) (by kernel_rfl) (by kernel_rfl) (fun _ _ _ h => h) (Or.inl ⟨by rfl, ?_⟩) (by assumption) ?_
      rotate_left
      · intro w hSw; (try dsimp only at hSw); go_simp; try with_reducible rfl
      try simp only [Act.put, List.setIfInBounds_toArray, List.set_cons_zero, List.set_cons_succ]
      refine wpAnyG_takeU (i := 2) (oi := { dst := some 102, op := Op.move (Operand.tmp 1), type := 169, pos := "ticket.go:189", after := #[], guard := none }) (v := ?_) rfl (by kernel_rfl) (by kernel_rfl) (by kernel_rfl) (by decide) (fun _ _ _ h => h) (Or.inl ⟨by rfl, ?_⟩) (by first | exact .inl (by assumption) | exact .inr rfl) ?_
      rotate_left
      · intro w hSw; go_simp; try with_reducible rfl
      try simp only [Act.put, List.setIfInBounds_toArray, List.set_cons_zero, List.set_cons_succ]
      refine wpAnyG_takeU (i := 3) (oi := { dst := some 103, op := Op.nilCheck (Operand.tmp 102), type := 0, pos := "ticket.go:189", after := #[{ on := 2, ground := Ground.data }], guard := none }) (v := ?_) rfl (by kernel_rfl) (by kernel_rfl) (by kernel_rfl) (by decide) (fun _ _ _ h => h) (Or.inl ⟨by rfl, ?_⟩) (by first | exact .inl (by assumption) | exact .inr rfl) ?_
      rotate_left
      · intro w hSw; go_simp; try with_reducible rfl
      try simp only [Act.put, List.setIfInBounds_toArray, List.set_cons_zero, List.set_cons_succ]
      refine wpAnyG_takeU (i := 4) (oi := { dst := some 104, op := Op.fieldAddr 27 (Operand.tmp 103) 4, type := 0, pos := "ticket.go:189", after := #[{ on := 3, ground := Ground.data }], guard := none }) (v := ?_) rfl (by kernel_rfl) (by kernel_rfl) (by kernel_rfl) (by decide) (fun _ _ _ h => h) (Or.inl ⟨by rfl, ?_⟩) (by first | exact .inl (by assumption) | exact .inr rfl) ?_
      rotate_left
      · intro w hSw; go_simp; try with_reducible rfl
      try simp only [Act.put, List.setIfInBounds_toArray, List.set_cons_zero, List.set_cons_succ]
      refine wpAnyG_takeM (i := 5) (oi := { dst := some 105, op := Op.load 24 (Operand.tmp 104), type := 24, pos := "ticket.go:189", after := #[{ on := 4, ground := Ground.data }], guard := none }) (v := ?_) (ms := [6, 7, 8, 9]) rfl (by kernel_rfl) (by kernel_rfl) (by kernel_rfl) (by kernel_rfl) (by kernel_rfl) (fun _ _ _ h => h) (Or.inl ⟨by rfl, ?_⟩) (by assumption) ?_
      rotate_left
      · intro w hSw; (try dsimp only at hSw); go_simp; try with_reducible rfl
      try simp only [Act.put, List.setIfInBounds_toArray, List.set_cons_zero, List.set_cons_succ]
      refine wpAnyG_one (i := 6) (o := { dst := some 106, op := Op.call { callee := Callee.value (Operand.func 182), args := #[Operand.tmp 101, Operand.tmp 105], argTypes := #[167, 24] }, type := 24, pos := "ticket.go:189", after := #[{ on := 1, ground := Ground.data }, { on := 5, ground := Ground.data }], guard := none }) (by kernel_rfl) rfl (fun K hK => ?_)
      go_simp
      go_at_call 182
      refine (wlistT_any base bw _ _ p2 n2 z2 (by have := HL.out; omega) (by have := HK.out; have := HL.out; simp; omega) _ HA.out.st.1).mono ?_
      rintro e wq ⟨rfl, hst⟩
      have HA := Lib.hid (HA.out.step hst)
      clear hst
      refine hK.out _ _ (.inl ⟨cell_of_row _ _ 0 _ _ _ HA.out.rr, cell_of_row _ _ 1 _ _ _ HA.out.rr, cell_of_row _ _ 4 _ _ _ HA.out.rg⟩) ?_
      clear hK K
      try simp only [Act.put, List.setIfInBounds_toArray, List.set_cons_zero, List.set_cons_succ]
      have hHeld : (wq.cell? ⟨w.heap.size, 0, none⟩ = some (.pointer (some ⟨bw, 0, none⟩)) ∧ wq.cell? ⟨w.heap.size, 1, none⟩ = some (.pointer none) ∧ wq.cell? ⟨g, 4, none⟩ = some (.slice p2 n2 z2)) := ⟨cell_of_row _ _ 0 _ _ _ HA.out.rr, cell_of_row _ _ 1 _ _ _ HA.out.rr, cell_of_row _ _ 4 _ _ _ HA.out.rg⟩
      refine wpAnyG_takeU (i := 7) (oi := { dst := some 107, op := Op.nilCheck (Operand.tmp 100), type := 0, pos := "ticket.go:189", after := #[{ on := 0, ground := Ground.data }, { on := 0, ground := Ground.phase }, { on := 1, ground := Ground.phase }, { on := 2, ground := Ground.phase }, { on := 3, ground := Ground.phase }, { on := 4, ground := Ground.phase }, { on := 5, ground := Ground.phase }, { on := 6, ground := Ground.phase }], guard := none }) (v := ?_) rfl (by kernel_rfl) (by kernel_rfl) (by kernel_rfl) (by decide) (fun _ _ _ h => h) (Or.inl ⟨by rfl, ?_⟩) (by first | exact .inl (by assumption) | exact .inr rfl) ?_
      rotate_left
      · intro w hSw; go_simp; try with_reducible rfl
      try simp only [Act.put, List.setIfInBounds_toArray, List.set_cons_zero, List.set_cons_succ]
      refine wpAnyG_takeU (i := 8) (oi := { dst := some 108, op := Op.fieldAddr 27 (Operand.tmp 107) 4, type := 0, pos := "ticket.go:189", after := #[{ on := 7, ground := Ground.data }, { on := 0, ground := Ground.phase }, { on := 1, ground := Ground.phase }, { on := 2, ground := Ground.phase }, { on := 3, ground := Ground.phase }, { on := 4, ground := Ground.phase }, { on := 5, ground := Ground.phase }, { on := 6, ground := Ground.phase }], guard := none }) (v := ?_) rfl (by kernel_rfl) (by kernel_rfl) (by kernel_rfl) (by decide) (fun _ _ _ h => h) (Or.inl ⟨by rfl, ?_⟩) (by first | exact .inl (by assumption) | exact .inr rfl) ?_
      rotate_left
      · intro w hSw; go_simp; try with_reducible rfl
      try simp only [Act.put, List.setIfInBounds_toArray, List.set_cons_zero, List.set_cons_succ]
      refine wpAnyG_one (i := 9) (o := { dst := none, op := Op.store 24 (Operand.tmp 108) (Operand.tmp 106), type := 0, pos := "ticket.go:189", after := #[{ on := 8, ground := Ground.data }, { on := 6, ground := Ground.data }, { on := 6, ground := Ground.chain }, { on := 0, ground := Ground.phase }, { on := 1, ground := Ground.phase }, { on := 2, ground := Ground.phase }, { on := 3, ground := Ground.phase }, { on := 4, ground := Ground.phase }, { on := 5, ground := Ground.phase }, { on := 6, ground := Ground.phase }], guard := none }) (by kernel_rfl) rfl (fun K hK => ?_)
      have kc := fun j => cell_of_row wq g j _ _ _ HA.out.rg
      have kf := fun j => frozen_of_row wq g j _ _ HA.out.rg
      have HID := Lib.hid (setCell_id (o := 4) (v := .slice p2 n2 z2) HA.out.rg rfl)
      go_simp
      rw [HID.out]
      refine hK.out _ _ (.inr rfl) ?_
      clear hK K
      try simp only [Act.put, List.setIfInBounds_toArray, List.set_cons_zero, List.set_cons_succ]
      refine wpAnyG_done (by kernel_rfl) ?_ _
      clear hHeld kc kf HID
      have HA : Hid (WAt w0 wq base bw w.heap.size g (k + 4009) (l ++ Tkt.encH t ++ Wire.be n1 1 ++ t.cs.flatMap Tkt.encC ++ Wire.be n2 1) #[.int .u64 t.num, .string t.loc, .int .i64 t.iss, .slice p1 n1 z1, .slice p2 n2 z2, .int .u64 t.prev, .int .u64 t.org, .int .u64 t.fst, .int .i64 t.vou, .int .i64 t.posts, .slice p3 n3 z3]) := Lib.hid (by
        have h0 := HA.out
        refine ⟨?_, h0.rr, h0.rg⟩
        have h1 := h0.st.mono (k' := k + 4009) (by have := HL.out; simp; omega)
        simpa [numsB, List.append_assoc] using h1)
      have hcg := fun j => cell_of_row wq g j _ _ _ HA.out.rg
      go_wp2_with fail
      clear hcg
      go_loopw [114] (fun i wr => ∃ j : Nat, j ≤ n2 ∧ i = .int .i64 j ∧ WAt w0 wr base bw w.heap.size g (k + 4009 + 18 * j) (l ++ Tkt.encH t ++ Wire.be n1 1 ++ t.cs.flatMap Tkt.encC ++ Wire.be n2 1 ++ (t.ts.take j).flatMap Tkt.encX) #[.int .u64 t.num, .string t.loc, .int .i64 t.iss, .slice p1 n1 z1, .slice p2 n2 z2, .int .u64 t.prev, .int .u64 t.org, .int .u64 t.fst, .int .i64 t.vou, .int .i64 t.posts, .slice p3 n3 z3]) (fun i _ => n2 - (intOf i).toNat)
      case atStart => exact ⟨0, Nat.zero_le _, rfl, by simpa [List.append_assoc] using HA.out⟩
      case round =>
        obtain ⟨j, hj, rfl, hrel⟩ := hrel
        have hnb : n2 ≤ 100 := by have := HL.out; omega
        have HA := Lib.hid hrel
        clear hrel
        by_cases hlt : j < n2
        · obtain ⟨y, hy⟩ : ∃ y, t.ts[j]? = some y := ⟨_, List.getElem?_eq_getElem (by have := HN2.out; omega)⟩
          have FC := Lib.hid (FT.out.ts y (List.mem_of_getElem? hy))
          have HX := Lib.hid hy
          rcases HO2.out with ⟨-, he⟩ | ⟨cb, cz, cur, hv, -, -, hrow, hcur⟩
          · rw [he] at hy; cases hy
          injection hv with e1 e2 e3
          subst e1
          subst e3
          clear e2
          have HCB := Lib.hid (HPO.out _ _ _ hrow); have HCUR := Lib.hid hcur
          clear hrow hcur hy
          go_wp2_with fail
          refine wp_region_G (C := fun W => W.cell? ⟨w.heap.size, 0, none⟩ = some (.pointer (some ⟨bw, 0, none⟩)) ∧ W.cell? ⟨w.heap.size, 1, none⟩ = some (.pointer none) ∧ W.cell? ⟨g, 4, none⟩ = some (.slice (some ⟨cb, 0, none⟩) n2 z2)) (s0 := 8) (by kernel_rfl) ?_
          have HA := Lib.hid HA.out.drew
          generalize wr.drew = wd at *
          have hHeld : (wd.cell? ⟨w.heap.size, 0, none⟩ = some (.pointer (some ⟨bw, 0, none⟩)) ∧ wd.cell? ⟨w.heap.size, 1, none⟩ = some (.pointer none) ∧ wd.cell? ⟨g, 4, none⟩ = some (.slice (some ⟨cb, 0, none⟩) n2 z2)) := ⟨cell_of_row _ _ 0 _ _ _ HA.out.rr, cell_of_row _ _ 1 _ _ _ HA.out.rr, cell_of_row _ _ 4 _ _ _ HA.out.rg⟩
          refine wpAnyG_takeM (i := 0) (oi := { dst := some 117, op := Op.load 167 (Operand.tmp 2), type := 167, pos := "ticket.go:191", after := #[], guard := none }) (v := ?_) (ms := [8]) rfl (by kernel_rfl) (by kernel_rfl) (by kernel_rfl) (by kernel_rfl) (by kernel_rfl) (fun _ _ _ h => h) (Or.inl ⟨by rfl, ?_⟩) (by assumption) ?_
          rotate_left
          · intro w hSw; (try dsimp only at hSw); go_simp; try with_reducible rfl
          try simp only [Act.put, List.setIfInBounds_toArray, List.set_cons_zero, List.set_cons_succ]
          refine wpAnyG_takeU (i := 1) (oi := { dst := some 118, op := Op.move (Operand.tmp 1), type := 169, pos := "ticket.go:191", after := #[], guard := none }) (v := ?_) rfl (by kernel_rfl) (by kernel_rfl) (by kernel_rfl) (by decide) (fun _ _ _ h => h) (Or.inl ⟨by rfl, ?_⟩) (by first | exact .inl (by assumption) | exact .inr rfl) ?_
          rotate_left
          · intro w hSw; go_simp; try with_reducible rfl
          try simp only [Act.put, List.setIfInBounds_toArray, List.set_cons_zero, List.set_cons_succ]
          refine wpAnyG_takeU (i := 2) (oi := { dst := some 119, op := Op.nilCheck (Operand.tmp 118), type := 0, pos := "ticket.go:191", after := #[{ on := 1, ground := Ground.data }], guard := none }) (v := ?_) rfl (by kernel_rfl) (by kernel_rfl) (by kernel_rfl) (by decide) (fun _ _ _ h => h) (Or.inl ⟨by rfl, ?_⟩) (by first | exact .inl (by assumption) | exact .inr rfl) ?_
          rotate_left
          · intro w hSw; go_simp; try with_reducible rfl
          try simp only [Act.put, List.setIfInBounds_toArray, List.set_cons_zero, List.set_cons_succ]
          refine wpAnyG_takeU (i := 3) (oi := { dst := some 120, op := Op.fieldAddr 27 (Operand.tmp 119) 4, type := 0, pos := "ticket.go:191", after := #[{ on := 2, ground := Ground.data }], guard := none }) (v := ?_) rfl (by kernel_rfl) (by kernel_rfl) (by kernel_rfl) (by decide) (fun _ _ _ h => h) (Or.inl ⟨by rfl, ?_⟩) (by first | exact .inl (by assumption) | exact .inr rfl) ?_
          rotate_left
          · intro w hSw; go_simp; try with_reducible rfl
          try simp only [Act.put, List.setIfInBounds_toArray, List.set_cons_zero, List.set_cons_succ]
          refine wpAnyG_takeM (i := 4) (oi := { dst := some 121, op := Op.load 24 (Operand.tmp 120), type := 24, pos := "ticket.go:191", after := #[{ on := 3, ground := Ground.data }], guard := none }) (v := ?_) (ms := [6, 7, 8]) rfl (by kernel_rfl) (by kernel_rfl) (by kernel_rfl) (by kernel_rfl) (by kernel_rfl) (fun _ _ _ h => h) (Or.inl ⟨by rfl, ?_⟩) (by assumption) ?_
          rotate_left
          · intro w hSw; (try dsimp only at hSw); go_simp; try with_reducible rfl
          try simp only [Act.put, List.setIfInBounds_toArray, List.set_cons_zero, List.set_cons_succ]
          refine wpAnyG_takeU (i := 5) (oi := { dst := some 122, op := Op.move (Operand.tmp 6), type := 3, pos := "ticket.go:191", after := #[], guard := none }) (v := ?_) rfl (by kernel_rfl) (by kernel_rfl) (by kernel_rfl) (by decide) (fun _ _ _ h => h) (Or.inl ⟨by rfl, ?_⟩) (by first | exact .inl (by assumption) | exact .inr rfl) ?_
          rotate_left
          · intro w hSw; go_simp; try with_reducible rfl
          try simp only [Act.put, List.setIfInBounds_toArray, List.set_cons_zero, List.set_cons_succ]
          refine wpAnyG_takeU (i := 6) (oi := { dst := some 123, op := Op.indexAddr 24 (Operand.tmp 121) (Operand.tmp 122), type := 0, pos := "ticket.go:191", after := #[{ on := 4, ground := Ground.data }, { on := 5, ground := Ground.data }], guard := none }) (v := ?_) rfl (by kernel_rfl) (by kernel_rfl) (by kernel_rfl) (by decide) (fun _ _ _ h => h) (Or.inl ⟨by rfl, ?_⟩) (by first | exact .inl (by assumption) | exact .inr rfl) ?_
          rotate_left
          · intro w hSw; go_simp; try with_reducible rfl
          try simp only [Act.put, List.setIfInBounds_toArray, List.set_cons_zero, List.set_cons_succ]
          refine wpAnyG_takeU (i := 7) (oi := { dst := some 124, op := Op.fieldAddr 127 (Operand.tmp 123) 0, type := 0, pos := "ticket.go:191", after := #[{ on := 6, ground := Ground.data }], guard := none }) (v := ?_) rfl (by kernel_rfl) (by kernel_rfl) (by kernel_rfl) (by decide) (fun _ _ _ h => h) (Or.inl ⟨by rfl, ?_⟩) (by first | exact .inl (by assumption) | exact .inr rfl) ?_
          rotate_left
          · intro w hSw; go_simp; try with_reducible rfl
          try simp only [Act.put, List.setIfInBounds_toArray, List.set_cons_zero, List.set_cons_succ]
          refine wpAnyG_one (i := 8) (o := { dst := some 125, op := Op.call { callee := Callee.value (Operand.func 178), args := #[Operand.tmp 117, Operand.tmp 124, Operand.const (Value.int IntKind.i64 1)], argTypes := #[167, 178, 3] }, type := 0, pos := "ticket.go:191", after := #[{ on := 0, ground := Ground.data }, { on := 7, ground := Ground.data }], guard := none }) (by kernel_rfl) rfl (fun K hK => ?_)
          go_simp
          go_at_call 178
          refine (wwhole_any base bw _ _ (y.cd).toNat 1 (by decide) (by have := (FC.out.1).2; omega) (by have := (FC.out.1).2; omega) (by have := HK.out; have := HL.out; simp; omega) _ HA.out.st.1 cb (j * 2) _ _ (HA.out.st.2.2.row HCB.out (by decide)) (by decide) ((HCUR.out j 0 y HX.out (by decide)).trans (by rw [Tkt.fitN.val FC.out.1]; rfl))).mono ?_
          rintro e wq ⟨rfl, hst⟩
          have HA := Lib.hid (HA.out.step hst)
          clear hst
          refine hK.out _ _ (.inr rfl) ?_
          clear hK K
          try simp only [Act.put, List.setIfInBounds_toArray, List.set_cons_zero, List.set_cons_succ]
          refine wpAnyG_done (by kernel_rfl) ?_ _
          clear hHeld
          go_wp2_with fail
          refine wp_region_G (C := fun W => W.cell? ⟨w.heap.size, 0, none⟩ = some (.pointer (some ⟨bw, 0, none⟩)) ∧ W.cell? ⟨w.heap.size, 1, none⟩ = some (.pointer none) ∧ W.cell? ⟨g, 4, none⟩ = some (.slice (some ⟨cb, 0, none⟩) n2 z2)) (s0 := 8) (by kernel_rfl) ?_
          have HA := Lib.hid HA.out.drew
          generalize wq.drew = wd at *
          have hHeld : (wd.cell? ⟨w.heap.size, 0, none⟩ = some (.pointer (some ⟨bw, 0, none⟩)) ∧ wd.cell? ⟨w.heap.size, 1, none⟩ = some (.pointer none) ∧ wd.cell? ⟨g, 4, none⟩ = some (.slice (some ⟨cb, 0, none⟩) n2 z2)) := ⟨cell_of_row _ _ 0 _ _ _ HA.out.rr, cell_of_row _ _ 1 _ _ _ HA.out.rr, cell_of_row _ _ 4 _ _ _ HA.out.rg⟩
          refine wpAnyG_takeM (i := 0) (oi := { dst := some 126, op := Op.load 167 (Operand.tmp 2), type := 167, pos := "ticket.go:192", after := #[], guard := none }) (v := ?_) (ms := [8]) rfl (by kernel_rfl) (by kernel_rfl) (by kernel_rfl) (by kernel_rfl) (by kernel_rfl) (fun _ _ _ h => h) (Or.inl ⟨by rfl, ?_⟩) (by assumption) ?_
          rotate_left
          · intro w hSw; (try dsimp only at hSw); go_simp; try with_reducible rfl
          try simp only [Act.put, List.setIfInBounds_toArray, List.set_cons_zero, List.set_cons_succ]
          refine wpAnyG_takeU (i := 1) (oi := { dst := some 127, op := Op.move (Operand.tmp 1), type := 169, pos := "ticket.go:192", after := #[], guard := none }) (v := ?_) rfl (by kernel_rfl) (by kernel_rfl) (by kernel_rfl) (by decide) (fun _ _ _ h => h) (Or.inl ⟨by rfl, ?_⟩) (by first | exact .inl (by assumption) | exact .inr rfl) ?_
          rotate_left
          · intro w hSw; go_simp; try with_reducible rfl
          try simp only [Act.put, List.setIfInBounds_toArray, List.set_cons_zero, List.set_cons_succ]
          refine wpAnyG_takeU (i := 2) (oi := { dst := some 128, op := Op.nilCheck (Operand.tmp 127), type := 0, pos := "ticket.go:192", after := #[{ on := 1, ground := Ground.data }], guard := none }) (v := ?_) rfl (by kernel_rfl) (by kernel_rfl) (by kernel_rfl) (by decide) (fun _ _ _ h => h) (Or.inl ⟨by rfl, ?_⟩) (by first | exact .inl (by assumption) | exact .inr rfl) ?_
          rotate_left
          · intro w hSw; go_simp; try with_reducible rfl
          try simp only [Act.put, List.setIfInBounds_toArray, List.set_cons_zero, List.set_cons_succ]
          refine wpAnyG_takeU (i := 3) (oi := { dst := some 129, op := Op.fieldAddr 27 (Operand.tmp 128) 4, type := 0, pos := "ticket.go:192", after := #[{ on := 2, ground := Ground.data }], guard := none }) (v := ?_) rfl (by kernel_rfl) (by kernel_rfl) (by kernel_rfl) (by decide) (fun _ _ _ h => h) (Or.inl ⟨by rfl, ?_⟩) (by first | exact .inl (by assumption) | exact .inr rfl) ?_
          rotate_left
          · intro w hSw; go_simp; try with_reducible rfl
          try simp only [Act.put, List.setIfInBounds_toArray, List.set_cons_zero, List.set_cons_succ]
          refine wpAnyG_takeM (i := 4) (oi := { dst := some 130, op := Op.load 24 (Operand.tmp 129), type := 24, pos := "ticket.go:192", after := #[{ on := 3, ground := Ground.data }], guard := none }) (v := ?_) (ms := [6, 7, 8]) rfl (by kernel_rfl) (by kernel_rfl) (by kernel_rfl) (by kernel_rfl) (by kernel_rfl) (fun _ _ _ h => h) (Or.inl ⟨by rfl, ?_⟩) (by assumption) ?_
          rotate_left
          · intro w hSw; (try dsimp only at hSw); go_simp; try with_reducible rfl
          try simp only [Act.put, List.setIfInBounds_toArray, List.set_cons_zero, List.set_cons_succ]
          refine wpAnyG_takeU (i := 5) (oi := { dst := some 131, op := Op.move (Operand.tmp 6), type := 3, pos := "ticket.go:192", after := #[], guard := none }) (v := ?_) rfl (by kernel_rfl) (by kernel_rfl) (by kernel_rfl) (by decide) (fun _ _ _ h => h) (Or.inl ⟨by rfl, ?_⟩) (by first | exact .inl (by assumption) | exact .inr rfl) ?_
          rotate_left
          · intro w hSw; go_simp; try with_reducible rfl
          try simp only [Act.put, List.setIfInBounds_toArray, List.set_cons_zero, List.set_cons_succ]
          refine wpAnyG_takeU (i := 6) (oi := { dst := some 132, op := Op.indexAddr 24 (Operand.tmp 130) (Operand.tmp 131), type := 0, pos := "ticket.go:192", after := #[{ on := 4, ground := Ground.data }, { on := 5, ground := Ground.data }], guard := none }) (v := ?_) rfl (by kernel_rfl) (by kernel_rfl) (by kernel_rfl) (by decide) (fun _ _ _ h => h) (Or.inl ⟨by rfl, ?_⟩) (by first | exact .inl (by assumption) | exact .inr rfl) ?_
          rotate_left
          · intro w hSw; go_simp; try with_reducible rfl
          try simp only [Act.put, List.setIfInBounds_toArray, List.set_cons_zero, List.set_cons_succ]
          refine wpAnyG_takeU (i := 7) (oi := { dst := some 133, op := Op.fieldAddr 127 (Operand.tmp 132) 1, type := 0, pos := "ticket.go:192", after := #[{ on := 6, ground := Ground.data }], guard := none }) (v := ?_) rfl (by kernel_rfl) (by kernel_rfl) (by kernel_rfl) (by decide) (fun _ _ _ h => h) (Or.inl ⟨by rfl, ?_⟩) (by first | exact .inl (by assumption) | exact .inr rfl) ?_
          rotate_left
          · intro w hSw; go_simp; try with_reducible rfl
          try simp only [Act.put, List.setIfInBounds_toArray, List.set_cons_zero, List.set_cons_succ]
          refine wpAnyG_one (i := 8) (o := { dst := some 134, op := Op.call { callee := Callee.value (Operand.func 179), args := #[Operand.tmp 126, Operand.tmp 133], argTypes := #[167, 171] }, type := 0, pos := "ticket.go:192", after := #[{ on := 0, ground := Ground.data }, { on := 7, ground := Ground.data }], guard := none }) (by kernel_rfl) rfl (fun K hK => ?_)
          go_simp
          go_at_call 179
          refine (wmoney_any base bw _ _ (y.am).toNat ((FC.out.2).2) (by have := HK.out; have := HL.out; simp; omega) _ HA.out.st.1 cb (j * 2 + 1) _ _ (HA.out.st.2.2.row HCB.out (by decide)) (by decide) ((HCUR.out j 1 y HX.out (by decide)).trans (by rw [Tkt.fitN.val FC.out.2]; rfl))).mono ?_
          rintro e wq ⟨rfl, hst⟩
          have HA := Lib.hid (HA.out.step hst)
          clear hst
          refine hK.out _ _ (.inr rfl) ?_
          clear hK K
          try simp only [Act.put, List.setIfInBounds_toArray, List.set_cons_zero, List.set_cons_succ]
          refine wpAnyG_done (by kernel_rfl) ?_ _
          clear hHeld
          go_wp2
          go_roundw
          case rel =>
            refine ⟨j + 1, by omega, by go_num, ?_⟩
            have h0 := HA.out
            refine ⟨?_, h0.rr, h0.rg⟩
            have h1 := h0.st.mono (k' := k + 4009 + 18 * (j + 1)) (by first | omega | (simp; omega))
            rw [List.take_add_one, HX.out]
            simpa [Tkt.encX, numsB, List.append_assoc] using h1
          case measure => simp [intOf]; omega
        · obtain rfl : n2 = j := by omega
          have HA := Lib.hid HA.out
          rw [List.take_of_length_le (by have := HN2.out; omega)] at HA
          go_wp2_with fail
          refine wp_region_G (C := fun W => W.cell? ⟨w.heap.size, 0, none⟩ = some (.pointer (some ⟨bw, 0, none⟩)) ∧ W.cell? ⟨w.heap.size, 1, none⟩ = some (.pointer none)) (s0 := 4) (by kernel_rfl) ?_
          have HA := Lib.hid HA.out.drew
          generalize wr.drew = wd at *
          have hHeld : (wd.cell? ⟨w.heap.size, 0, none⟩ = some (.pointer (some ⟨bw, 0, none⟩)) ∧ wd.cell? ⟨w.heap.size, 1, none⟩ = some (.pointer none)) := ⟨cell_of_row _ _ 0 _ _ _ HA.out.rr, cell_of_row _ _ 1 _ _ _ HA.out.rr⟩
          refine wpAnyG_takeM (i := 0) (oi := { dst := some 136, op := Op.load 167 (Operand.tmp 2), type := 167, pos := "ticket.go:194", after := #[], guard := none }) (v := ?_) (ms := [4]) rfl (by kernel_rfl) (by kernel_rfl) (by kernel_rfl) (by kernel_rfl) (by kernel_rfl) (fun _ _ _ h => h) (Or.inl ⟨by rfl, ?_⟩) (by assumption) ?_
          rotate_left
          · intro w hSw; (try dsimp only at hSw); go_simp; try with_reducible rfl
          try simp only [Act.put, List.setIfInBounds_toArray, List.set_cons_zero, List.set_cons_succ]
          refine wpAnyG_takeU (i := 1) (oi := { dst := some 137, op := Op.move (Operand.tmp 1), type := 169, pos := "ticket.go:194", after := #[], guard := none }) (v := ?_) rfl (by kernel_rfl) (by kernel_rfl) (by kernel_rfl) (by decide) (fun _ _ _ h => h) (Or.inl ⟨by rfl, ?_⟩) (by first | exact .inl (by assumption) | exact .inr rfl) ?_
          rotate_left
          · intro w hSw; go_simp; try with_reducible rfl
          try simp only [Act.put, List.setIfInBounds_toArray, List.set_cons_zero, List.set_cons_succ]
          refine wpAnyG_takeU (i := 2) (oi := { dst := some 138, op := Op.nilCheck (Operand.tmp 137), type := 0, pos := "ticket.go:194", after := #[{ on := 1, ground := Ground.data }], guard := none }) (v := ?_) rfl (by kernel_rfl) (by kernel_rfl) (by kernel_rfl) (by decide) (fun _ _ _ h => h) (Or.inl ⟨by rfl, ?_⟩) (by first | exact .inl (by assumption) | exact .inr rfl) ?_
          rotate_left
          · intro w hSw; go_simp; try with_reducible rfl
          try simp only [Act.put, List.setIfInBounds_toArray, List.set_cons_zero, List.set_cons_succ]
          refine wpAnyG_takeU (i := 3) (oi := { dst := some 139, op := Op.fieldAddr 27 (Operand.tmp 138) 9, type := 0, pos := "ticket.go:194", after := #[{ on := 2, ground := Ground.data }], guard := none }) (v := ?_) rfl (by kernel_rfl) (by kernel_rfl) (by kernel_rfl) (by decide) (fun _ _ _ h => h) (Or.inl ⟨by rfl, ?_⟩) (by first | exact .inl (by assumption) | exact .inr rfl) ?_
          rotate_left
          · intro w hSw; go_simp; try with_reducible rfl
          try simp only [Act.put, List.setIfInBounds_toArray, List.set_cons_zero, List.set_cons_succ]
          refine wpAnyG_one (i := 4) (o := { dst := some 140, op := Op.call { callee := Callee.value (Operand.func 178), args := #[Operand.tmp 136, Operand.tmp 139, Operand.const (Value.int IntKind.i64 1)], argTypes := #[167, 178, 3] }, type := 0, pos := "ticket.go:194", after := #[{ on := 0, ground := Ground.data }, { on := 3, ground := Ground.data }], guard := none }) (by kernel_rfl) rfl (fun K hK => ?_)
          go_simp
          go_at_call 178
          refine (wwhole_any base bw _ _ (t.posts).toNat 1 (by decide) (by have := (FT.out.posts).2; omega) (by have := (FT.out.posts).2; omega) (by have := HK.out; have := HL.out; simp; omega) _ HA.out.st.1 g (9) _ _ HA.out.rg (by decide) (by rw [Tkt.fitN.val FT.out.posts]; rfl)).mono ?_
          rintro e wq ⟨rfl, hst⟩
          have HA := Lib.hid (HA.out.step hst)
          clear hst
          refine hK.out _ _ (.inr rfl) ?_
          clear hK K
          try simp only [Act.put, List.setIfInBounds_toArray, List.set_cons_zero, List.set_cons_succ]
          refine wpAnyG_done (by kernel_rfl) ?_ _
          clear hHeld
          go_wp2_with fail
          refine wp_region_G (C := fun W => W.cell? ⟨w.heap.size, 0, none⟩ = some (.pointer (some ⟨bw, 0, none⟩)) ∧ W.cell? ⟨w.heap.size, 1, none⟩ = some (.pointer none) ∧ W.cell? ⟨g, 10, none⟩ = some (.slice p3 n3 z3)) (s0 := 9) (by kernel_rfl) ?_
          have HA := Lib.hid HA.out.drew
          generalize wq.drew = wd at *
          have hHeld : (wd.cell? ⟨w.heap.size, 0, none⟩ = some (.pointer (some ⟨bw, 0, none⟩)) ∧ wd.cell? ⟨w.heap.size, 1, none⟩ = some (.pointer none) ∧ wd.cell? ⟨g, 10, none⟩ = some (.slice p3 n3 z3)) := ⟨cell_of_row _ _ 0 _ _ _ HA.out.rr, cell_of_row _ _ 1 _ _ _ HA.out.rr, cell_of_row _ _ 10 _ _ _ HA.out.rg⟩
          refine wpAnyG_takeU (i := 0) (oi := { dst := some 141, op := Op.move (Operand.tmp 1), type := 169, pos := "ticket.go:195", after := #[], guard := none }) (v := ?_) rfl (by kernel_rfl) (by kernel_rfl) (by kernel_rfl) (by decide) (fun _ _ _ h => h) (Or.inl ⟨by rfl, ?_⟩) (by first | exact .inl (by assumption) | exact .inr rfl) ?_
          rotate_left
          · intro w hSw; go_simp; try with_reducible rfl
          try simp only [Act.put, List.setIfInBounds_toArray, List.set_cons_zero, List.set_cons_succ]
          refine wpAnyG_takeM (i := 1) (oi := { dst := some 142, op := Op.load 167 (Operand.tmp 2), type := 167, pos := "ticket.go:195", after := #[], guard := none }) (v := ?_) (ms := [6, 7, 8, 9]) rfl (by kernel_rfl) (by kernel_rfl) (by kernel_rfl) (by kernel_rfl) (by kernel_rfl) (fun _ _ _ h => h) (Or.inl ⟨by rfl, ?_⟩) (by assumption) ?_
          rotate_left
          · intro w hSw; (try dsimp only at hSw); go_simp; try with_reducible rfl
          try simp only [Act.put, List.setIfInBounds_toArray, List.set_cons_zero, List.set_cons_succ]
          refine wpAnyG_takeU (i := 2) (oi := { dst := some 143, op := Op.move (Operand.tmp 1), type := 169, pos := "ticket.go:195", after := #[], guard := none }) (v := ?_) rfl (by kernel_rfl) (by kernel_rfl) (by kernel_rfl) (by decide) (fun _ _ _ h => h) (Or.inl ⟨by rfl, ?_⟩) (by first | exact .inl (by assumption) | exact .inr rfl) ?_
          rotate_left
          · intro w hSw; go_simp; try with_reducible rfl
          try simp only [Act.put, List.setIfInBounds_toArray, List.set_cons_zero, List.set_cons_succ]
          refine wpAnyG_takeU (i := 3) (oi := { dst := some 144, op := Op.nilCheck (Operand.tmp 143), type := 0, pos := "ticket.go:195", after := #[{ on := 2, ground := Ground.data }], guard := none }) (v := ?_) rfl (by kernel_rfl) (by kernel_rfl) (by kernel_rfl) (by decide) (fun _ _ _ h => h) (Or.inl ⟨by rfl, ?_⟩) (by first | exact .inl (by assumption) | exact .inr rfl) ?_
          rotate_left
          · intro w hSw; go_simp; try with_reducible rfl
          try simp only [Act.put, List.setIfInBounds_toArray, List.set_cons_zero, List.set_cons_succ]
          refine wpAnyG_takeU (i := 4) (oi := { dst := some 145, op := Op.fieldAddr 27 (Operand.tmp 144) 10, type := 0, pos := "ticket.go:195", after := #[{ on := 3, ground := Ground.data }], guard := none }) (v := ?_) rfl (by kernel_rfl) (by kernel_rfl) (by kernel_rfl) (by decide) (fun _ _ _ h => h) (Or.inl ⟨by rfl, ?_⟩) (by first | exact .inl (by assumption) | exact .inr rfl) ?_
          rotate_left
          · intro w hSw; go_simp; try with_reducible rfl
          try simp only [Act.put, List.setIfInBounds_toArray, List.set_cons_zero, List.set_cons_succ]
          refine wpAnyG_takeM (i := 5) (oi := { dst := some 146, op := Op.load 25 (Operand.tmp 145), type := 25, pos := "ticket.go:195", after := #[{ on := 4, ground := Ground.data }], guard := none }) (v := ?_) (ms := [6, 7, 8, 9]) rfl (by kernel_rfl) (by kernel_rfl) (by kernel_rfl) (by kernel_rfl) (by kernel_rfl) (fun _ _ _ h => h) (Or.inl ⟨by rfl, ?_⟩) (by assumption) ?_
          rotate_left
          · intro w hSw; (try dsimp only at hSw); go_simp; try with_reducible rfl
          try simp only [Act.put, List.setIfInBounds_toArray, List.set_cons_zero, List.set_cons_succ]
          refine wpAnyG_one (i := 6) (o := { dst := some 147, op := Op.call { callee := Callee.value (Operand.func 183), args := #[Operand.tmp 142, Operand.tmp 146], argTypes := #[167, 25] }, type := 25, pos := "ticket.go:195", after := #[{ on := 1, ground := Ground.data }, { on := 5, ground := Ground.data }], guard := none }) (by kernel_rfl) rfl (fun K hK => ?_)
          go_simp
          go_at_call 183
          refine (wlistE_any base bw _ _ p3 n3 z3 (by have := HL.out; omega) (by have := HK.out; have := HL.out; simp; omega) _ HA.out.st.1).mono ?_
          rintro e wq ⟨rfl, hst⟩
          have HA := Lib.hid (HA.out.step hst)
          clear hst
          refine hK.out _ _ (.inl ⟨cell_of_row _ _ 0 _ _ _ HA.out.rr, cell_of_row _ _ 1 _ _ _ HA.out.rr, cell_of_row _ _ 10 _ _ _ HA.out.rg⟩) ?_
          clear hK K
          try simp only [Act.put, List.setIfInBounds_toArray, List.set_cons_zero, List.set_cons_succ]
          have hHeld : (wq.cell? ⟨w.heap.size, 0, none⟩ = some (.pointer (some ⟨bw, 0, none⟩)) ∧ wq.cell? ⟨w.heap.size, 1, none⟩ = some (.pointer none) ∧ wq.cell? ⟨g, 10, none⟩ = some (.slice p3 n3 z3)) := ⟨cell_of_row _ _ 0 _ _ _ HA.out.rr, cell_of_row _ _ 1 _ _ _ HA.out.rr, cell_of_row _ _ 10 _ _ _ HA.out.rg⟩
          refine wpAnyG_takeU (i := 7) (oi := { dst := some 148, op := Op.nilCheck (Operand.tmp 141), type := 0, pos := "ticket.go:195", after := #[{ on := 0, ground := Ground.data }, { on := 0, ground := Ground.phase }, { on := 1, ground := Ground.phase }, { on := 2, ground := Ground.phase }, { on := 3, ground := Ground.phase }, { on := 4, ground := Ground.phase }, { on := 5, ground := Ground.phase }, { on := 6, ground := Ground.phase }], guard := none }) (v := ?_) rfl (by kernel_rfl) (by kernel_rfl) (by kernel_rfl) (by decide) (fun _ _ _ h => h) (Or.inl ⟨by rfl, ?_⟩) (by first | exact .inl (by assumption) | exact .inr rfl) ?_
          rotate_left
          · intro w hSw; go_simp; try with_reducible rfl
          try simp only [Act.put, List.setIfInBounds_toArray, List.set_cons_zero, List.set_cons_succ]
          refine wpAnyG_takeU (i := 8) (oi := { dst := some 149, op := Op.fieldAddr 27 (Operand.tmp 148) 10, type := 0, pos := "ticket.go:195", after := #[{ on := 7, ground := Ground.data }, { on := 0, ground := Ground.phase }, { on := 1, ground := Ground.phase }, { on := 2, ground := Ground.phase }, { on := 3, ground := Ground.phase }, { on := 4, ground := Ground.phase }, { on := 5, ground := Ground.phase }, { on := 6, ground := Ground.phase }], guard := none }) (v := ?_) rfl (by kernel_rfl) (by kernel_rfl) (by kernel_rfl) (by decide) (fun _ _ _ h => h) (Or.inl ⟨by rfl, ?_⟩) (by first | exact .inl (by assumption) | exact .inr rfl) ?_
          rotate_left
          · intro w hSw; go_simp; try with_reducible rfl
          try simp only [Act.put, List.setIfInBounds_toArray, List.set_cons_zero, List.set_cons_succ]
          refine wpAnyG_one (i := 9) (o := { dst := none, op := Op.store 25 (Operand.tmp 149) (Operand.tmp 147), type := 0, pos := "ticket.go:195", after := #[{ on := 8, ground := Ground.data }, { on := 6, ground := Ground.data }, { on := 6, ground := Ground.chain }, { on := 0, ground := Ground.phase }, { on := 1, ground := Ground.phase }, { on := 2, ground := Ground.phase }, { on := 3, ground := Ground.phase }, { on := 4, ground := Ground.phase }, { on := 5, ground := Ground.phase }, { on := 6, ground := Ground.phase }], guard := none }) (by kernel_rfl) rfl (fun K hK => ?_)
          have kc := fun j => cell_of_row wq g j _ _ _ HA.out.rg
          have kf := fun j => frozen_of_row wq g j _ _ HA.out.rg
          have HID := Lib.hid (setCell_id (o := 10) (v := .slice p3 n3 z3) HA.out.rg rfl)
          go_simp
          rw [HID.out]
          refine hK.out _ _ (.inr rfl) ?_
          clear hK K
          try simp only [Act.put, List.setIfInBounds_toArray, List.set_cons_zero, List.set_cons_succ]
          refine wpAnyG_done (by kernel_rfl) ?_ _
          clear hHeld kc kf HID
          have HA : Hid (WAt w0 wq base bw w.heap.size g (k + 6018) (l ++ Tkt.encH t ++ Wire.be n1 1 ++ t.cs.flatMap Tkt.encC ++ Wire.be n2 1 ++ t.ts.flatMap Tkt.encX ++ Wire.be t.posts.toNat 1 ++ Wire.be n3 1) #[.int .u64 t.num, .string t.loc, .int .i64 t.iss, .slice p1 n1 z1, .slice p2 n2 z2, .int .u64 t.prev, .int .u64 t.org, .int .u64 t.fst, .int .i64 t.vou, .int .i64 t.posts, .slice p3 n3 z3]) := Lib.hid (by
            have h0 := HA.out
            refine ⟨?_, h0.rr, h0.rg⟩
            have h1 := h0.st.mono (k' := k + 6018) (by have := HL.out; simp; omega)
            simpa [numsB, List.append_assoc] using h1)
          have hcg := fun j => cell_of_row wq g j _ _ _ HA.out.rg
          go_wp2_with fail
          clear hcg
          go_loopw [155] (fun i wr => ∃ j : Nat, j ≤ n3 ∧ i = .int .i64 j ∧ WAt w0 wr base bw w.heap.size g (k + 6018 + 36 * j) (l ++ Tkt.encH t ++ Wire.be n1 1 ++ t.cs.flatMap Tkt.encC ++ Wire.be n2 1 ++ t.ts.flatMap Tkt.encX ++ Wire.be t.posts.toNat 1 ++ Wire.be n3 1 ++ (t.hs.take j).flatMap Tkt.encE) #[.int .u64 t.num, .string t.loc, .int .i64 t.iss, .slice p1 n1 z1, .slice p2 n2 z2, .int .u64 t.prev, .int .u64 t.org, .int .u64 t.fst, .int .i64 t.vou, .int .i64 t.posts, .slice p3 n3 z3]) (fun i _ => n3 - (intOf i).toNat)
          case atStart => exact ⟨0, Nat.zero_le _, rfl, by simpa [List.append_assoc] using HA.out⟩
          case round =>
            obtain ⟨j, hj, rfl, hrel⟩ := hrel
            have hnb : n3 ≤ 100 := by have := HL.out; omega
            have HA := Lib.hid hrel
            clear hrel
            by_cases hlt : j < n3
            · obtain ⟨y, hy⟩ : ∃ y, t.hs[j]? = some y := ⟨_, List.getElem?_eq_getElem (by have := HN3.out; omega)⟩
              have FC := Lib.hid (FT.out.hs y (List.mem_of_getElem? hy))
              have HX := Lib.hid hy
              rcases HO3.out with ⟨-, he⟩ | ⟨cb, cz, cur, hv, -, -, hrow, hcur⟩
              · rw [he] at hy; cases hy
              injection hv with e1 e2 e3
              subst e1
              subst e3
              clear e2
              have HCB := Lib.hid (HPO.out _ _ _ hrow); have HCUR := Lib.hid hcur
              clear hrow hcur hy
              have hcg := fun j => cell_of_row wr g j _ _ _ HA.out.rg
              go_wp2_with fail
              clear hcg
              refine wp_region_G (C := fun W => W.cell? ⟨w.heap.size, 0, none⟩ = some (.pointer (some ⟨bw, 0, none⟩)) ∧ W.cell? ⟨w.heap.size, 1, none⟩ = some (.pointer none)) (s0 := 4) (by kernel_rfl) ?_
              have HA := Lib.hid HA.out.drew
              generalize wr.drew = wd at *
              have hHeld : (wd.cell? ⟨w.heap.size, 0, none⟩ = some (.pointer (some ⟨bw, 0, none⟩)) ∧ wd.cell? ⟨w.heap.size, 1, none⟩ = some (.pointer none)) := ⟨cell_of_row _ _ 0 _ _ _ HA.out.rr, cell_of_row _ _ 1 _ _ _ HA.out.rr⟩
              refine wpAnyG_takeM (i := 0) (oi := { dst := some 164, op := Op.load 167 (Operand.tmp 2), type := 167, pos := "ticket.go:198", after := #[], guard := none }) (v := ?_) (ms := [4]) rfl (by kernel_rfl) (by kernel_rfl) (by kernel_rfl) (by kernel_rfl) (by kernel_rfl) (fun _ _ _ h => h) (Or.inl ⟨by rfl, ?_⟩) (by assumption) ?_
              rotate_left
              · intro w hSw; (try dsimp only at hSw); go_simp; try with_reducible rfl
              try simp only [Act.put, List.setIfInBounds_toArray, List.set_cons_zero, List.set_cons_succ]
              refine wpAnyG_takeU (i := 1) (oi := { dst := some 165, op := Op.move (Operand.tmp 8), type := 239, pos := "ticket.go:198", after := #[], guard := none }) (v := ?_) rfl (by kernel_rfl) (by kernel_rfl) (by kernel_rfl) (by decide) (fun _ _ _ h => h) (Or.inl ⟨by rfl, ?_⟩) (by first | exact .inl (by assumption) | exact .inr rfl) ?_
              rotate_left
              · intro w hSw; go_simp; try with_reducible rfl
              try simp only [Act.put, List.setIfInBounds_toArray, List.set_cons_zero, List.set_cons_succ]
              refine wpAnyG_takeU (i := 2) (oi := { dst := some 166, op := Op.nilCheck (Operand.tmp 165), type := 0, pos := "ticket.go:198", after := #[{ on := 1, ground := Ground.data }], guard := none }) (v := ?_) rfl (by kernel_rfl) (by kernel_rfl) (by kernel_rfl) (by decide) (fun _ _ _ h => h) (Or.inl ⟨by rfl, ?_⟩) (by first | exact .inl (by assumption) | exact .inr rfl) ?_
              rotate_left
              · intro w hSw; go_simp; try with_reducible rfl
              try simp only [Act.put, List.setIfInBounds_toArray, List.set_cons_zero, List.set_cons_succ]
              refine wpAnyG_takeU (i := 3) (oi := { dst := some 167, op := Op.fieldAddr 187 (Operand.tmp 166) 0, type := 0, pos := "ticket.go:198", after := #[{ on := 2, ground := Ground.data }], guard := none }) (v := ?_) rfl (by kernel_rfl) (by kernel_rfl) (by kernel_rfl) (by decide) (fun _ _ _ h => h) (Or.inl ⟨by rfl, ?_⟩) (by first | exact .inl (by assumption) | exact .inr rfl) ?_
              rotate_left
              · intro w hSw; go_simp; try with_reducible rfl
              try simp only [Act.put, List.setIfInBounds_toArray, List.set_cons_zero, List.set_cons_succ]
              refine wpAnyG_one (i := 4) (o := { dst := some 168, op := Op.call { callee := Callee.value (Operand.func 178), args := #[Operand.tmp 164, Operand.tmp 167, Operand.const (Value.int IntKind.i64 4)], argTypes := #[167, 178, 3] }, type := 0, pos := "ticket.go:198", after := #[{ on := 0, ground := Ground.data }, { on := 3, ground := Ground.data }], guard := none }) (by kernel_rfl) rfl (fun K hK => ?_)
              go_simp
              go_at_call 178
              refine (wwhole_any base bw _ _ (y.dy).toNat 4 (by decide) (by have := (FC.out.1).2; omega) (by have := (FC.out.1).2; omega) (by have := HK.out; have := HL.out; simp; omega) _ HA.out.st.1 cb (j * 4) _ _ (HA.out.st.2.2.row HCB.out (by decide)) (by decide) ((HCUR.out j 0 y HX.out (by decide)).trans (by rw [Tkt.fitN.val FC.out.1]; rfl))).mono ?_
              rintro e wq ⟨rfl, hst⟩
              have HA := Lib.hid (HA.out.step hst)
              clear hst
              refine hK.out _ _ (.inr rfl) ?_
              clear hK K
              try simp only [Act.put, List.setIfInBounds_toArray, List.set_cons_zero, List.set_cons_succ]
              refine wpAnyG_done (by kernel_rfl) ?_ _
              clear hHeld
              go_wp2_with fail
              refine wp_region_G (C := fun W => W.cell? ⟨w.heap.size, 0, none⟩ = some (.pointer (some ⟨bw, 0, none⟩)) ∧ W.cell? ⟨w.heap.size, 1, none⟩ = some (.pointer none)) (s0 := 4) (by kernel_rfl) ?_
              have HA := Lib.hid HA.out.drew
              generalize wq.drew = wd at *
              have hHeld : (wd.cell? ⟨w.heap.size, 0, none⟩ = some (.pointer (some ⟨bw, 0, none⟩)) ∧ wd.cell? ⟨w.heap.size, 1, none⟩ = some (.pointer none)) := ⟨cell_of_row _ _ 0 _ _ _ HA.out.rr, cell_of_row _ _ 1 _ _ _ HA.out.rr⟩
              refine wpAnyG_takeM (i := 0) (oi := { dst := some 169, op := Op.load 167 (Operand.tmp 2), type := 167, pos := "ticket.go:199", after := #[], guard := none }) (v := ?_) (ms := [4]) rfl (by kernel_rfl) (by kernel_rfl) (by kernel_rfl) (by kernel_rfl) (by kernel_rfl) (fun _ _ _ h => h) (Or.inl ⟨by rfl, ?_⟩) (by assumption) ?_
              rotate_left
              · intro w hSw; (try dsimp only at hSw); go_simp; try with_reducible rfl
              try simp only [Act.put, List.setIfInBounds_toArray, List.set_cons_zero, List.set_cons_succ]
              refine wpAnyG_takeU (i := 1) (oi := { dst := some 170, op := Op.move (Operand.tmp 8), type := 239, pos := "ticket.go:199", after := #[], guard := none }) (v := ?_) rfl (by kernel_rfl) (by kernel_rfl) (by kernel_rfl) (by decide) (fun _ _ _ h => h) (Or.inl ⟨by rfl, ?_⟩) (by first | exact .inl (by assumption) | exact .inr rfl) ?_
              rotate_left
              · intro w hSw; go_simp; try with_reducible rfl
              try simp only [Act.put, List.setIfInBounds_toArray, List.set_cons_zero, List.set_cons_succ]
              refine wpAnyG_takeU (i := 2) (oi := { dst := some 171, op := Op.nilCheck (Operand.tmp 170), type := 0, pos := "ticket.go:199", after := #[{ on := 1, ground := Ground.data }], guard := none }) (v := ?_) rfl (by kernel_rfl) (by kernel_rfl) (by kernel_rfl) (by decide) (fun _ _ _ h => h) (Or.inl ⟨by rfl, ?_⟩) (by first | exact .inl (by assumption) | exact .inr rfl) ?_
              rotate_left
              · intro w hSw; go_simp; try with_reducible rfl
              try simp only [Act.put, List.setIfInBounds_toArray, List.set_cons_zero, List.set_cons_succ]
              refine wpAnyG_takeU (i := 3) (oi := { dst := some 172, op := Op.fieldAddr 187 (Operand.tmp 171) 1, type := 0, pos := "ticket.go:199", after := #[{ on := 2, ground := Ground.data }], guard := none }) (v := ?_) rfl (by kernel_rfl) (by kernel_rfl) (by kernel_rfl) (by decide) (fun _ _ _ h => h) (Or.inl ⟨by rfl, ?_⟩) (by first | exact .inl (by assumption) | exact .inr rfl) ?_
              rotate_left
              · intro w hSw; go_simp; try with_reducible rfl
              try simp only [Act.put, List.setIfInBounds_toArray, List.set_cons_zero, List.set_cons_succ]
              refine wpAnyG_one (i := 4) (o := { dst := some 173, op := Op.call { callee := Callee.value (Operand.func 178), args := #[Operand.tmp 169, Operand.tmp 172, Operand.const (Value.int IntKind.i64 1)], argTypes := #[167, 178, 3] }, type := 0, pos := "ticket.go:199", after := #[{ on := 0, ground := Ground.data }, { on := 3, ground := Ground.data }], guard := none }) (by kernel_rfl) rfl (fun K hK => ?_)
              go_simp
              go_at_call 178
              refine (wwhole_any base bw _ _ (y.co).toNat 1 (by decide) (by have := (FC.out.2.1).2; omega) (by have := (FC.out.2.1).2; omega) (by have := HK.out; have := HL.out; simp; omega) _ HA.out.st.1 cb (j * 4 + 1) _ _ (HA.out.st.2.2.row HCB.out (by decide)) (by decide) ((HCUR.out j 1 y HX.out (by decide)).trans (by rw [Tkt.fitN.val FC.out.2.1]; rfl))).mono ?_
              rintro e wq ⟨rfl, hst⟩
              have HA := Lib.hid (HA.out.step hst)
              clear hst
              refine hK.out _ _ (.inr rfl) ?_
              clear hK K
              try simp only [Act.put, List.setIfInBounds_toArray, List.set_cons_zero, List.set_cons_succ]
              refine wpAnyG_done (by kernel_rfl) ?_ _
              clear hHeld
              go_wp2_with fail
              refine wp_region_G (C := fun W => W.cell? ⟨w.heap.size, 0, none⟩ = some (.pointer (some ⟨bw, 0, none⟩)) ∧ W.cell? ⟨w.heap.size, 1, none⟩ = some (.pointer none)) (s0 := 4) (by kernel_rfl) ?_
              have HA := Lib.hid HA.out.drew
              generalize wq.drew = wd at *
              have hHeld : (wd.cell? ⟨w.heap.size, 0, none⟩ = some (.pointer (some ⟨bw, 0, none⟩)) ∧ wd.cell? ⟨w.heap.size, 1, none⟩ = some (.pointer none)) := ⟨cell_of_row _ _ 0 _ _ _ HA.out.rr, cell_of_row _ _ 1 _ _ _ HA.out.rr⟩
              refine wpAnyG_takeM (i := 0) (oi := { dst := some 174, op := Op.load 167 (Operand.tmp 2), type := 167, pos := "ticket.go:200", after := #[], guard := none }) (v := ?_) (ms := [4]) rfl (by kernel_rfl) (by kernel_rfl) (by kernel_rfl) (by kernel_rfl) (by kernel_rfl) (fun _ _ _ h => h) (Or.inl ⟨by rfl, ?_⟩) (by assumption) ?_
              rotate_left
              · intro w hSw; (try dsimp only at hSw); go_simp; try with_reducible rfl
              try simp only [Act.put, List.setIfInBounds_toArray, List.set_cons_zero, List.set_cons_succ]
              refine wpAnyG_takeU (i := 1) (oi := { dst := some 175, op := Op.move (Operand.tmp 8), type := 239, pos := "ticket.go:200", after := #[], guard := none }) (v := ?_) rfl (by kernel_rfl) (by kernel_rfl) (by kernel_rfl) (by decide) (fun _ _ _ h => h) (Or.inl ⟨by rfl, ?_⟩) (by first | exact .inl (by assumption) | exact .inr rfl) ?_
              rotate_left
              · intro w hSw; go_simp; try with_reducible rfl
              try simp only [Act.put, List.setIfInBounds_toArray, List.set_cons_zero, List.set_cons_succ]
              refine wpAnyG_takeU (i := 2) (oi := { dst := some 176, op := Op.nilCheck (Operand.tmp 175), type := 0, pos := "ticket.go:200", after := #[{ on := 1, ground := Ground.data }], guard := none }) (v := ?_) rfl (by kernel_rfl) (by kernel_rfl) (by kernel_rfl) (by decide) (fun _ _ _ h => h) (Or.inl ⟨by rfl, ?_⟩) (by first | exact .inl (by assumption) | exact .inr rfl) ?_
              rotate_left
              · intro w hSw; go_simp; try with_reducible rfl
              try simp only [Act.put, List.setIfInBounds_toArray, List.set_cons_zero, List.set_cons_succ]
              refine wpAnyG_takeU (i := 3) (oi := { dst := some 177, op := Op.fieldAddr 187 (Operand.tmp 176) 2, type := 0, pos := "ticket.go:200", after := #[{ on := 2, ground := Ground.data }], guard := none }) (v := ?_) rfl (by kernel_rfl) (by kernel_rfl) (by kernel_rfl) (by decide) (fun _ _ _ h => h) (Or.inl ⟨by rfl, ?_⟩) (by first | exact .inl (by assumption) | exact .inr rfl) ?_
              rotate_left
              · intro w hSw; go_simp; try with_reducible rfl
              try simp only [Act.put, List.setIfInBounds_toArray, List.set_cons_zero, List.set_cons_succ]
              refine wpAnyG_one (i := 4) (o := { dst := some 178, op := Op.call { callee := Callee.value (Operand.func 181), args := #[Operand.tmp 174, Operand.tmp 177], argTypes := #[167, 183] }, type := 0, pos := "ticket.go:200", after := #[{ on := 0, ground := Ground.data }, { on := 3, ground := Ground.data }], guard := none }) (by kernel_rfl) rfl (fun K hK => ?_)
              go_simp
              go_at_call 181
              refine (wstatus_any base bw _ _ (y.fr).toNat ((FC.out.2.2.1).2) (by have := HK.out; have := HL.out; simp; omega) _ HA.out.st.1 cb (j * 4 + 2) _ _ (HA.out.st.2.2.row HCB.out (by decide)) (by decide) ((HCUR.out j 2 y HX.out (by decide)).trans (by rw [Tkt.fitN.val FC.out.2.2.1]; rfl))).mono ?_
              rintro e wq ⟨rfl, hst⟩
              have HA := Lib.hid (HA.out.step hst)
              clear hst
              refine hK.out _ _ (.inr rfl) ?_
              clear hK K
              try simp only [Act.put, List.setIfInBounds_toArray, List.set_cons_zero, List.set_cons_succ]
              refine wpAnyG_done (by kernel_rfl) ?_ _
              clear hHeld
              go_wp2_with fail
              refine wp_region_G (C := fun W => W.cell? ⟨w.heap.size, 0, none⟩ = some (.pointer (some ⟨bw, 0, none⟩)) ∧ W.cell? ⟨w.heap.size, 1, none⟩ = some (.pointer none)) (s0 := 4) (by kernel_rfl) ?_
              have HA := Lib.hid HA.out.drew
              generalize wq.drew = wd at *
              have hHeld : (wd.cell? ⟨w.heap.size, 0, none⟩ = some (.pointer (some ⟨bw, 0, none⟩)) ∧ wd.cell? ⟨w.heap.size, 1, none⟩ = some (.pointer none)) := ⟨cell_of_row _ _ 0 _ _ _ HA.out.rr, cell_of_row _ _ 1 _ _ _ HA.out.rr⟩
              refine wpAnyG_takeM (i := 0) (oi := { dst := some 179, op := Op.load 167 (Operand.tmp 2), type := 167, pos := "ticket.go:201", after := #[], guard := none }) (v := ?_) (ms := [4]) rfl (by kernel_rfl) (by kernel_rfl) (by kernel_rfl) (by kernel_rfl) (by kernel_rfl) (fun _ _ _ h => h) (Or.inl ⟨by rfl, ?_⟩) (by assumption) ?_
              rotate_left
              · intro w hSw; (try dsimp only at hSw); go_simp; try with_reducible rfl
              try simp only [Act.put, List.setIfInBounds_toArray, List.set_cons_zero, List.set_cons_succ]
              refine wpAnyG_takeU (i := 1) (oi := { dst := some 180, op := Op.move (Operand.tmp 8), type := 239, pos := "ticket.go:201", after := #[], guard := none }) (v := ?_) rfl (by kernel_rfl) (by kernel_rfl) (by kernel_rfl) (by decide) (fun _ _ _ h => h) (Or.inl ⟨by rfl, ?_⟩) (by first | exact .inl (by assumption) | exact .inr rfl) ?_
              rotate_left
              · intro w hSw; go_simp; try with_reducible rfl
              try simp only [Act.put, List.setIfInBounds_toArray, List.set_cons_zero, List.set_cons_succ]
              refine wpAnyG_takeU (i := 2) (oi := { dst := some 181, op := Op.nilCheck (Operand.tmp 180), type := 0, pos := "ticket.go:201", after := #[{ on := 1, ground := Ground.data }], guard := none }) (v := ?_) rfl (by kernel_rfl) (by kernel_rfl) (by kernel_rfl) (by decide) (fun _ _ _ h => h) (Or.inl ⟨by rfl, ?_⟩) (by first | exact .inl (by assumption) | exact .inr rfl) ?_
              rotate_left
              · intro w hSw; go_simp; try with_reducible rfl
              try simp only [Act.put, List.setIfInBounds_toArray, List.set_cons_zero, List.set_cons_succ]
              refine wpAnyG_takeU (i := 3) (oi := { dst := some 182, op := Op.fieldAddr 187 (Operand.tmp 181) 3, type := 0, pos := "ticket.go:201", after := #[{ on := 2, ground := Ground.data }], guard := none }) (v := ?_) rfl (by kernel_rfl) (by kernel_rfl) (by kernel_rfl) (by decide) (fun _ _ _ h => h) (Or.inl ⟨by rfl, ?_⟩) (by first | exact .inl (by assumption) | exact .inr rfl) ?_
              rotate_left
              · intro w hSw; go_simp; try with_reducible rfl
              try simp only [Act.put, List.setIfInBounds_toArray, List.set_cons_zero, List.set_cons_succ]
              refine wpAnyG_one (i := 4) (o := { dst := some 183, op := Op.call { callee := Callee.value (Operand.func 181), args := #[Operand.tmp 179, Operand.tmp 182], argTypes := #[167, 183] }, type := 0, pos := "ticket.go:201", after := #[{ on := 0, ground := Ground.data }, { on := 3, ground := Ground.data }], guard := none }) (by kernel_rfl) rfl (fun K hK => ?_)
              go_simp
              go_at_call 181
              refine (wstatus_any base bw _ _ (y.to).toNat ((FC.out.2.2.2).2) (by have := HK.out; have := HL.out; simp; omega) _ HA.out.st.1 cb (j * 4 + 3) _ _ (HA.out.st.2.2.row HCB.out (by decide)) (by decide) ((HCUR.out j 3 y HX.out (by decide)).trans (by rw [Tkt.fitN.val FC.out.2.2.2]; rfl))).mono ?_
              rintro e wq ⟨rfl, hst⟩
              have HA := Lib.hid (HA.out.step hst)
              clear hst
              refine hK.out _ _ (.inr rfl) ?_
              clear hK K
              try simp only [Act.put, List.setIfInBounds_toArray, List.set_cons_zero, List.set_cons_succ]
              refine wpAnyG_done (by kernel_rfl) ?_ _
              clear hHeld
              go_wp2
              go_roundw
              case rel =>
                refine ⟨j + 1, by omega, by go_num, ?_⟩
                have h0 := HA.out
                refine ⟨?_, h0.rr, h0.rg⟩
                have h1 := h0.st.mono (k' := k + 6018 + 36 * (j + 1)) (by first | omega | (simp; omega))
                rw [List.take_add_one, HX.out]
                simpa [Tkt.encE, numsB, List.append_assoc] using h1
              case measure => simp [intOf]; omega
            · obtain rfl : n3 = j := by omega
              have HA := Lib.hid HA.out
              rw [List.take_of_length_le (by have := HN3.out; omega)] at HA
              go_wp2_with fail
              have h0 := HA.out
              (try simp only [Exit.inBlock, Exit.then])
              go_end0
              refine ⟨rfl, ?_⟩
              have h1 := HPRE.out _ _ _ (h0.st.mono (k' := k + 20000) (by have := HL.out; omega))
              have e1 := HN1.out; have e2 := HN2.out; have e3 := HN3.out
              rw [e1, e2, e3] at h1
              simpa [Tkt.encT, List.append_assoc] using h1
end Go.Proofs.YtbmphlpmipkpcaaGreat
