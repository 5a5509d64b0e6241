/- Contracts: a request's parts are put (request.asked with a writer), where a kind names no lists. -/
import Derived.Test.YtbmphlpmipkpcaaGreatRnm28
import Derived.Test.YtbmphlpmipkpcaaGreatRnm33
import Derived.Test.YtbmphlpmipkpcaaGreatRnm37

set_option linter.unusedVariables false
set_option linter.unusedSimpArgs false
namespace Go.Proofs.YtbmphlpmipkpcaaGreat
open Go.RowKit Go.Deep

namespace Rq
def encF (c : Cpn) : List UInt8 := (Wire.be c.fl.toNat 2 ++ Wire.be c.dy.toNat 4) ++ Wire.be c.va.toNat 8
def encX (t : Txx) : List UInt8 := Wire.be t.cd.toNat 1 ++ Wire.be t.am.toNat 8
/-- a part's bytes -/
def encP (f : Nat) (x : Rqt) : List UInt8 := if f = 131 then Wire.be x.key.size 1 ++ x.key.data.toList else if f = 132 then Wire.be x.d.toNat 4 else if f = 136 then Wire.be x.tk.toNat 8 else if f = 137 then Wire.be x.c.toNat 1 else if f = 138 then Wire.be x.st.toNat 1 else if f = 139 then Wire.be x.am.toNat 8 else if f = 133 then x.loc.data.toList else if f = 141 then Wire.be x.fr.toNat 4 ++ Wire.be x.tt.toNat 4 else if f = 134 then Wire.be x.cs.length 1 ++ x.cs.flatMap encF else if f = 140 then Wire.be x.cs.length 1 ++ x.cs.flatMap encF else if f = 135 then Wire.be x.xs.length 1 ++ x.xs.flatMap encX else []
def encsP : List Nat → Rqt → List UInt8
  | [], _ => []
  | f :: r, x => encP f x ++ encsP r x
theorem encsP_snoc : ∀ (l : List Nat) (f : Nat) (x : Rqt), encsP (l ++ [f]) x = encsP l x ++ encP f x
  | [], f, x => by unfold encsP; simp [encsP]
  | g :: l, f, x => by
    show encP g x ++ encsP (l ++ [f]) x = (encP g x ++ encsP l x) ++ encP f x
    rw [encsP_snoc l f x, List.append_assoc]
end Rq
theorem own_kept {T : List TypeId} {w w' : World} {base e n m : Nat} {v : Value} {xs : List Value} (h : w.ownsRow base e n v m xs) (hk : Kept T w w') (he : e ∉ T) : w'.ownsRow base e n v m xs := by
  obtain ⟨h1, h2⟩ := h
  refine ⟨h1, ?_⟩
  rcases h2 with h2 | ⟨g, cap, cur, e1, hg, hh, h3⟩
  · exact .inl h2
  · exact .inr ⟨g, cap, cur, e1, hg, hk.block g _ _ _ hh he, h3⟩
/-- a request that is gone through, put: so many bytes lie in the writer -/
structure WPt (w0 : World) (g gq bw k : Nat) (l : List UInt8) (x : Rqt) (W : World) : Prop where
  ex : ∃ cv tv, W.heap[g]? = some (.cells #[.pointer (some ⟨bw, 0, none⟩), .pointer none, .bool false, .pointer (some ⟨gq, 0, none⟩)] 125 (0, 0)) ∧ W.heap[gq]? = some (.cells #[.string x.key, .int .i64 x.k, .int .i64 x.d, .int .u64 x.tk, .int .i64 x.c, .int .i64 x.st, .string x.loc, cv, tv, .int .i64 x.am, .int .i64 x.fr, .int .i64 x.tt] 57 (0, 0)) ∧ W.ownsRow w0.heap.size 33 6 cv x.cs.length (encL Cpn.cells x.cs) ∧ W.ownsRow w0.heap.size 127 2 tv x.xs.length (encL Txx.cells x.xs)
  wr : IsW W w0.heap.size bw k (some l)
  b : Below w0.heap.size w0 W
  wf : x.wf
theorem wpt_step {w0 W w' : World} {g gq bw k k' : Nat} {l l' : List UInt8} {x : Rqt} (h : WPt w0 g gq bw k l x W) (hs : WStep W w' w0.heap.size bw k' (some l')) : WPt w0 g gq bw k' l' x w' ∧ Rq.KF W w' := by
  obtain ⟨cv, tv, h1, h2, h3, h4⟩ := h.ex
  refine ⟨⟨⟨cv, tv, hs.2.2.row h1 (by decide), hs.2.2.row h2 (by decide), own_kept h3 hs.2.2 (by decide), own_kept h4 hs.2.2 (by decide)⟩, hs.1, h.b.trans hs.2.1, h.wf⟩, fun k cs fr hk => hs.2.2.block k _ _ _ hk (by decide)⟩
theorem wpt0 {w0 W W1 : World} {g gq bw k : Nat} {l : List UInt8} {x : Rqt} (h : WPt w0 g gq bw k l x W) (hb : Below W.heap.size W W1) : WPt w0 g gq bw k l x W1 := by
  obtain ⟨cv, tv, h1, h2, h3, h4⟩ := h.ex
  exact ⟨⟨cv, tv, (hb.block _ (block_lt h1)).trans h1, (hb.block _ (block_lt h2)).trans h2, recs_below h3 hb, recs_below h4 hb⟩, h.wr.below hb, h.b.trans (hb.mono h.b.size), h.wf⟩

set_option maxRecDepth 4000 in
set_option maxHeartbeats 1000000 in
theorem ptextW (T U : TypeId) (cs ds : Array Value) (g b o base bw k fN : Nat) (l : List UInt8) (S : ByteArray) (m : Int) (hk : k + 1 + S.size ≤ 536870912) (w : World) (hx : w.heap[g]? = some (.cells cs T (0, 0))) (hy : w.heap[b]? = some (.cells ds U (0, 0))) (h0 : cs[0]? = some (.pointer (some ⟨bw, 0, none⟩))) (hv : ds[o]? = some (.string S)) (h : IsW w base bw k (some l)) :
    Calls Tryz.prog 187 #[.pointer (some ⟨g, 0, none⟩), .pointer (some ⟨b, o, none⟩), .int .i64 m, .func (.func fN) #[] #[]] w fun e w' => e = .returned (.tuple #[]) ∧ WStep w w' base bw (k + 1 + S.size) (some (l ++ S.data.toList)) := by
  have c0 : w.cell? ⟨g, 0, none⟩ = some (.pointer (some ⟨bw, 0, none⟩)) := (cell_of_row w g 0 _ _ _ hx).trans h0
  have d0 : w.cell? ⟨b, o, none⟩ = some (.string S) := (cell_of_row w b o _ _ _ hy).trans hv
  have HLT := Lib.hid h.lt
  have hlg := cell_blockW c0
  have hlb := cell_blockW d0
  simp only at hlg hlb
  have HSZ : Hid (S.data.toList.length = S.size) := Lib.hid (by show S.data.toList.length = S.data.size; simp)
  have HI := Lib.hid (h.below (Below.refl w.heap.size w).drew)
  have hHeld : w.drew.cell? ⟨g, 0, none⟩ = some (.pointer (some ⟨bw, 0, none⟩)) ∧ w.drew.cell? ⟨b, o, none⟩ = some (.string S) := ⟨c0, d0⟩
  clear hx hy h0 hv h d0
  go_enter Tryz.func187, Tryz.ntmps187
  go_upto_region 3 with fail
  refine wp_region_G (C := fun W => W.cell? ⟨g, 0, none⟩ = some (.pointer (some ⟨bw, 0, none⟩)) ∧ W.cell? ⟨b, o, none⟩ = some (.string S)) (s0 := 8) (by kernel_rfl) ?_
  have HDW : Hid (Below w.heap.size w w.drew) := Lib.hid (Below.refl w.heap.size w).drew
  have hlg2 : g < w.drew.heap.size := hlg
  have hlb2 : b < w.drew.heap.size := hlb
  clear c0 hlg hlb
  generalize w.drew = wd at *
  obtain ⟨v, w1, hrun, hbs, hb1, q, c, rfl⟩ := conv_text wd S (by simp only [maxLen]; omega) base
  have HC1 : Hid (w1.cell? ⟨g, 0, none⟩ = some (.pointer (some ⟨bw, 0, none⟩)) ∧ w1.cell? ⟨b, o, none⟩ = some (.string S)) := Lib.hid ⟨(hb1.cell (p := ⟨g, 0, none⟩) hlg2).trans hHeld.1, (hb1.cell (p := ⟨b, o, none⟩) hlb2).trans hHeld.2⟩
  have HBS := Lib.hid hbs.1
  have HI1 := Lib.hid (HI.out.below hb1)
  have HB1 := Lib.hid (HDW.out.trans (hb1.mono HDW.out.size))
  clear hbs hb1 HDW
  refine wpAnyG_takeU (i := 0) (oi := { dst := some 23, op := Op.move (Operand.tmp 0), type := 92, pos := "request.go:85", after := #[], guard := none }) (v := ?_) rfl (by kernel_rfl) (by kernel_rfl) (by kernel_rfl) (by decide) (fun _ _ _ h => h) (Or.inl ⟨by rfl, ?_⟩) (.inl (by assumption)) ?_
  rotate_left
  · intro w hSw; go_simp; try with_reducible rfl
  try simp only [Act.put, List.setIfInBounds_toArray, List.set_cons_zero, List.set_cons_succ]
  refine wpAnyG_takeU (i := 1) (oi := { dst := some 24, op := Op.nilCheck (Operand.tmp 23), type := 0, pos := "request.go:85", after := #[{ on := 0, ground := Ground.data }], guard := none }) (v := ?_) rfl (by kernel_rfl) (by kernel_rfl) (by kernel_rfl) (by decide) (fun _ _ _ h => h) (Or.inl ⟨by rfl, ?_⟩) (.inl (by assumption)) ?_
  rotate_left
  · intro w hSw; go_simp; try with_reducible rfl
  try simp only [Act.put, List.setIfInBounds_toArray, List.set_cons_zero, List.set_cons_succ]
  refine wpAnyG_takeU (i := 2) (oi := { dst := some 25, op := Op.fieldAddr 97 (Operand.tmp 24) 0, type := 0, pos := "request.go:85", after := #[{ on := 1, ground := Ground.data }], guard := none }) (v := ?_) rfl (by kernel_rfl) (by kernel_rfl) (by kernel_rfl) (by decide) (fun _ _ _ h => h) (Or.inl ⟨by rfl, ?_⟩) (.inl (by assumption)) ?_
  rotate_left
  · intro w hSw; go_simp; try with_reducible rfl
  try simp only [Act.put, List.setIfInBounds_toArray, List.set_cons_zero, List.set_cons_succ]
  refine wpAnyG_takeM (i := 3) (oi := { dst := some 26, op := Op.load 95 (Operand.tmp 25), type := 95, pos := "request.go:85", after := #[{ on := 2, ground := Ground.data }], guard := none }) (v := ?_) (ms := [8]) rfl (by kernel_rfl) (by kernel_rfl) (by kernel_rfl) (by kernel_rfl) (by kernel_rfl) (fun _ _ _ h => h) (Or.inl ⟨by rfl, ?_⟩) (by assumption) ?_
  rotate_left
  · intro w hSw; (try dsimp only at hSw); go_simp; try with_reducible rfl
  try simp only [Act.put, List.setIfInBounds_toArray, List.set_cons_zero, List.set_cons_succ]
  refine wpAnyG_takeU (i := 4) (oi := { dst := some 27, op := Op.move (Operand.tmp 1), type := 233, pos := "request.go:85", after := #[], guard := none }) (v := ?_) rfl (by kernel_rfl) (by kernel_rfl) (by kernel_rfl) (by decide) (fun _ _ _ h => h) (Or.inl ⟨by rfl, ?_⟩) (.inl (by assumption)) ?_
  rotate_left
  · intro w hSw; go_simp; try with_reducible rfl
  try simp only [Act.put, List.setIfInBounds_toArray, List.set_cons_zero, List.set_cons_succ]
  refine wpAnyG_takeU (i := 5) (oi := { dst := some 28, op := Op.nilCheck (Operand.tmp 27), type := 0, pos := "request.go:85", after := #[{ on := 4, ground := Ground.data }], guard := none }) (v := ?_) rfl (by kernel_rfl) (by kernel_rfl) (by kernel_rfl) (by decide) (fun _ _ _ h => h) (Or.inl ⟨by rfl, ?_⟩) (.inl (by assumption)) ?_
  rotate_left
  · intro w hSw; go_simp; try with_reducible rfl
  try simp only [Act.put, List.setIfInBounds_toArray, List.set_cons_zero, List.set_cons_succ]
  refine wpAnyG_takeM (i := 6) (oi := { dst := some 29, op := Op.load 9 (Operand.tmp 28), type := 9, pos := "request.go:85", after := #[{ on := 5, ground := Ground.data }], guard := none }) (v := ?_) (ms := [7, 8]) rfl (by kernel_rfl) (by kernel_rfl) (by kernel_rfl) (by kernel_rfl) (by kernel_rfl) (fun _ _ _ h => h) (Or.inl ⟨by rfl, ?_⟩) (by assumption) ?_
  rotate_left
  · intro w hSw; (try dsimp only at hSw); go_simp; try with_reducible rfl
  try simp only [Act.put, List.setIfInBounds_toArray, List.set_cons_zero, List.set_cons_succ]
  refine wpAnyG_one (i := 7) (o := { dst := some 30, op := Op.convert 9 47 (Operand.tmp 29), type := 47, pos := "request.go:85", after := #[{ on := 6, ground := Ground.data }], guard := none }) (by kernel_rfl) rfl (fun K hK => ?_)
  go_simp
  refine hK.out _ _ (.inl HC1.out) ?_
  clear hK K
  try simp only [Act.put, List.setIfInBounds_toArray, List.set_cons_zero, List.set_cons_succ]
  clear hrun hHeld
  have hHeld := HC1.out
  refine wpAnyG_one (i := 8) (o := { dst := some 31, op := Op.call { callee := Callee.value (Operand.func 90), args := #[Operand.tmp 26, Operand.tmp 30], argTypes := #[95, 47] }, type := 95, pos := "request.go:85", after := #[{ on := 3, ground := Ground.data }, { on := 7, ground := Ground.data }], guard := none }) (by kernel_rfl) rfl (fun K hK => ?_)
  go_simp
  refine (wbytes_any base bw k (some l) _ S.data.toList (by rw [HSZ.out]; omega) w1 HI1.out HBS.out).mono ?_
  rintro e w2 ⟨rfl, hst⟩
  have HST : Hid (WStep w w2 base bw (k + 1 + S.size) (some (l ++ S.data.toList))) := Lib.hid (WStep.pre HB1.out (by have := HLT.out; omega) (by rw [HSZ.out] at hst; exact hst))
  clear hst
  refine hK.out _ _ (.inr rfl) ?_
  clear hK K
  try simp only [Act.put, List.setIfInBounds_toArray, List.set_cons_zero, List.set_cons_succ]
  refine wpAnyG_done (by kernel_rfl) ?_ _
  go_wp2
  first | go_end0 | refine bodyPost_ret (results_none rfl _ _ _) rfl ?_
  exact ⟨rfl, HST.out⟩

set_option maxRecDepth 4000 in
set_option maxHeartbeats 1000000 in
theorem pstateW (T U : TypeId) (cs ds : Array Value) (g b o base bw k : Nat) (l : List UInt8) (N : Nat) (hN : N < 256) (hk : k + 9 ≤ 536870912) (w : World) (hx : w.heap[g]? = some (.cells cs T (0, 0))) (hy : w.heap[b]? = some (.cells ds U (0, 0))) (h0 : cs[0]? = some (.pointer (some ⟨bw, 0, none⟩))) (hv : ds[o]? = some (.int .i64 (N : Int))) (hT : T ∉ WT) (hU : U ∉ WT) (h : IsW w base bw k (some l)) :
    Calls Tryz.prog 117 #[.pointer (some ⟨g, 0, none⟩), .pointer (some ⟨b, o, none⟩)] w fun e w' => e = .returned (.tuple #[]) ∧ WStep w w' base bw (k + 9) (some (l ++ Wire.be N 1)) := by
  have d0 : w.cell? ⟨b, o, none⟩ = some (.int .i64 (N : Int)) := (cell_of_row w b o _ _ _ hy).trans hv
  have hbl := block_lt hy
  have HB := Lib.hid ((Below.refl w.heap.size w).alloc (Nat.le_refl _) (.cells #[.int .i64 (N : Int)] 3))
  have HW := Lib.hid (h.below HB.out)
  have HX := Lib.hid (row_allocW hx (.cells #[.int .i64 (N : Int)] 3))
  have HY := Lib.hid (row_allocW hy (.cells #[.int .i64 (N : Int)] 3))
  have HM := Lib.hid (new_rowW w (.cells #[.int .i64 (N : Int)] 3) _ rfl)
  have H0 := Lib.hid h0; have HV := Lib.hid hv; have HT := Lib.hid hT; have HU := Lib.hid hU; have HLT := Lib.hid h.lt
  clear hx hy h0 hv hT hU h
  go_enter Tryz.func117, Tryz.ntmps117
  go_upto_region 1 with fail
  clear d0 hbl
  generalize w.alloc (.cells #[.int .i64 (N : Int)] 3) = w1 at *
  generalize hm : w.heap.size = m at *
  have HMW := Lib.hid hm
  clear hm
  go_wp2_with fail
  refine (pnumW T 3 cs _ g m 0 base bw k l N 1 1 9 (by decide) (by simpa using hN) hk w1 HX.out HM.out H0.out rfl HT.out (by decide) HW.out).mono ?_
  rintro e w2 ⟨rfl, hst⟩
  have HST := Lib.hid hst
  have HY2 := Lib.hid (hst.2.2.row HY.out HU.out)
  have HM2 := Lib.hid (hst.2.2.row HM.out (by decide))
  clear hst
  have km := fun j => cell_of_row w2 m j _ _ _ HM2.out
  have kn : w2.cell? ⟨b, o, none⟩ = some (.int .i64 (N : Int)) := (cell_of_row _ _ o _ _ _ HY2.out).trans HV.out
  have kf := fun j => frozen_of_row w2 b j _ _ HY2.out
  have HID := Lib.hid (setCell_id HY2.out HV.out)
  go_wp2
  first | go_end0 | refine bodyPost_ret (results_none rfl _ _ _) rfl ?_
  refine ⟨rfl, ?_⟩
  rw [HID.out]
  exact WStep.pre (by rw [HMW.out]; exact HB.out) (by have := HLT.out; have := HMW.out; omega) HST.out

set_option maxRecDepth 4000 in
set_option maxHeartbeats 1000000 in
theorem wpt_on {w0 W : World} {g gq bw k : Nat} {l : List UInt8} {x : Rqt} (h : WPt w0 g gq bw k l x W) (hB : Rq.partB 132 x = true) (hk : k + 400 ≤ 536870912) : Calls Tryz.prog 132 #[.pointer (some ⟨g, 0, none⟩)] W fun e w' => e = .returned (.tuple #[]) ∧ WPt w0 g gq bw (k + 400) (l ++ Rq.encP 132 x) x w' ∧ Rq.KF W w' := by
  have hB1 : inB 0 1000000 x.d = true := hB
  have hfit : 0 ≤ x.d ∧ x.d ≤ 1000000 := by unfold inB at hB1; simp only [Bool.and_eq_true, decide_eq_true_eq] at hB1; omega
  obtain ⟨cv, tv, h1, h2, h3, h4⟩ := h.ex
  have cx := fun j => cell_of_row W g j _ _ _ h1
  have HC := Lib.hid (pdayW 125 57 #[.pointer (some ⟨bw, 0, none⟩), .pointer none, .bool false, .pointer (some ⟨gq, 0, none⟩)] #[.string x.key, .int .i64 x.k, .int .i64 x.d, .int .u64 x.tk, .int .i64 x.c, .int .i64 x.st, .string x.loc, cv, tv, .int .i64 x.am, .int .i64 x.fr, .int .i64 x.tt] g gq 2 w0.heap.size bw k l x.d.toNat (by omega) (by omega) W.drew h1 h2 rfl (by show _ = some _; rw [Int.toNat_of_nonneg (by omega)]; rfl) (by decide) (by decide) (h.wr.below (Below.refl W.heap.size W).drew))
  have HH := Lib.hid h
  have hbx := block_lt h1; have hby := block_lt h2
  clear h1 h2 h3 h4 hB hB1 hfit h
  go_enter Tryz.func132, Tryz.ntmps132
  go_wp2_with fail
  go_still_tail 9, (by kernel_rfl)
  change wpList _ _ _ _ _ (W.drew)
  go_wp2_with fail
  refine HC.out.mono ?_
  rintro e w1 ⟨rfl, hst⟩
  have HST := Lib.hid (wpt_step HH.out (WStep.pre (Below.refl W.heap.size W).drew (by have := HH.out.wr.lt; omega) (hst.mono (show _ ≤ k + 400 by omega))))
  clear hst cx
  go_wp2
  first | go_end0 | refine bodyPost_ret (results_none rfl _ _ _) rfl ?_
  exact ⟨rfl, HST.out⟩

set_option maxRecDepth 4000 in
set_option maxHeartbeats 1000000 in
theorem wpt_of {w0 W : World} {g gq bw k : Nat} {l : List UInt8} {x : Rqt} (h : WPt w0 g gq bw k l x W) (hB : Rq.partB 136 x = true) (hk : k + 400 ≤ 536870912) : Calls Tryz.prog 136 #[.pointer (some ⟨g, 0, none⟩)] W fun e w' => e = .returned (.tuple #[]) ∧ WPt w0 g gq bw (k + 400) (l ++ Rq.encP 136 x) x w' ∧ Rq.KF W w' := by
  have hB1 : Tkt.numB x.tk = true := hB
  have hfit : 0 ≤ x.tk ∧ x.tk < 18446744073709551616 := by have h1 := h.wf.tk; unfold U64 at h1; omega
  obtain ⟨cv, tv, h1, h2, h3, h4⟩ := h.ex
  have cx := fun j => cell_of_row W g j _ _ _ h1
  have HC := Lib.hid (pticketW 125 57 #[.pointer (some ⟨bw, 0, none⟩), .pointer none, .bool false, .pointer (some ⟨gq, 0, none⟩)] #[.string x.key, .int .i64 x.k, .int .i64 x.d, .int .u64 x.tk, .int .i64 x.c, .int .i64 x.st, .string x.loc, cv, tv, .int .i64 x.am, .int .i64 x.fr, .int .i64 x.tt] g gq 3 w0.heap.size bw k l x.tk.toNat (by omega) (by omega) W.drew h1 h2 rfl (by show _ = some _; rw [Int.toNat_of_nonneg (by omega)]; rfl) (by decide) (by decide) (h.wr.below (Below.refl W.heap.size W).drew))
  have HH := Lib.hid h
  have hbx := block_lt h1; have hby := block_lt h2
  clear h1 h2 h3 h4 hB hB1 hfit h
  go_enter Tryz.func136, Tryz.ntmps136
  go_wp2_with fail
  go_still_tail 9, (by kernel_rfl)
  change wpList _ _ _ _ _ (W.drew)
  go_wp2_with fail
  refine HC.out.mono ?_
  rintro e w1 ⟨rfl, hst⟩
  have HST := Lib.hid (wpt_step HH.out (WStep.pre (Below.refl W.heap.size W).drew (by have := HH.out.wr.lt; omega) (hst.mono (show _ ≤ k + 400 by omega))))
  clear hst cx
  go_wp2
  first | go_end0 | refine bodyPost_ret (results_none rfl _ _ _) rfl ?_
  exact ⟨rfl, HST.out⟩

set_option maxRecDepth 4000 in
set_option maxHeartbeats 1000000 in
theorem wpt_coupon {w0 W : World} {g gq bw k : Nat} {l : List UInt8} {x : Rqt} (h : WPt w0 g gq bw k l x W) (hB : Rq.partB 137 x = true) (hk : k + 400 ≤ 536870912) : Calls Tryz.prog 137 #[.pointer (some ⟨g, 0, none⟩)] W fun e w' => e = .returned (.tuple #[]) ∧ WPt w0 g gq bw (k + 400) (l ++ Rq.encP 137 x) x w' ∧ Rq.KF W w' := by
  have hB1 : inB 1 4 x.c = true := hB
  have hfit : 0 ≤ x.c ∧ x.c ≤ 4 := by unfold inB at hB1; simp only [Bool.and_eq_true, decide_eq_true_eq] at hB1; omega
  obtain ⟨cv, tv, h1, h2, h3, h4⟩ := h.ex
  have cx := fun j => cell_of_row W g j _ _ _ h1
  have HC := Lib.hid (pplaceW 125 57 #[.pointer (some ⟨bw, 0, none⟩), .pointer none, .bool false, .pointer (some ⟨gq, 0, none⟩)] #[.string x.key, .int .i64 x.k, .int .i64 x.d, .int .u64 x.tk, .int .i64 x.c, .int .i64 x.st, .string x.loc, cv, tv, .int .i64 x.am, .int .i64 x.fr, .int .i64 x.tt] g gq 4 w0.heap.size bw k l x.c.toNat (by omega) (by omega) W.drew h1 h2 rfl (by show _ = some _; rw [Int.toNat_of_nonneg (by omega)]; rfl) (by decide) (by decide) (h.wr.below (Below.refl W.heap.size W).drew))
  have HH := Lib.hid h
  have hbx := block_lt h1; have hby := block_lt h2
  clear h1 h2 h3 h4 hB hB1 hfit h
  go_enter Tryz.func137, Tryz.ntmps137
  go_wp2_with fail
  go_still_tail 9, (by kernel_rfl)
  change wpList _ _ _ _ _ (W.drew)
  go_wp2_with fail
  refine HC.out.mono ?_
  rintro e w1 ⟨rfl, hst⟩
  have HST := Lib.hid (wpt_step HH.out (WStep.pre (Below.refl W.heap.size W).drew (by have := HH.out.wr.lt; omega) (hst.mono (show _ ≤ k + 400 by omega))))
  clear hst cx
  go_wp2
  first | go_end0 | refine bodyPost_ret (results_none rfl _ _ _) rfl ?_
  exact ⟨rfl, HST.out⟩

set_option maxRecDepth 4000 in
set_option maxHeartbeats 1000000 in
theorem wpt_status {w0 W : World} {g gq bw k : Nat} {l : List UInt8} {x : Rqt} (h : WPt w0 g gq bw k l x W) (hB : Rq.partB 138 x = true) (hk : k + 400 ≤ 536870912) : Calls Tryz.prog 138 #[.pointer (some ⟨g, 0, none⟩)] W fun e w' => e = .returned (.tuple #[]) ∧ WPt w0 g gq bw (k + 400) (l ++ Rq.encP 138 x) x w' ∧ Rq.KF W w' := by
  have hB1 : inB 1 9 x.st = true := hB
  have hfit : 0 ≤ x.st ∧ x.st ≤ 9 := by unfold inB at hB1; simp only [Bool.and_eq_true, decide_eq_true_eq] at hB1; omega
  obtain ⟨cv, tv, h1, h2, h3, h4⟩ := h.ex
  have cx := fun j => cell_of_row W g j _ _ _ h1
  have HC := Lib.hid (pstateW 125 57 #[.pointer (some ⟨bw, 0, none⟩), .pointer none, .bool false, .pointer (some ⟨gq, 0, none⟩)] #[.string x.key, .int .i64 x.k, .int .i64 x.d, .int .u64 x.tk, .int .i64 x.c, .int .i64 x.st, .string x.loc, cv, tv, .int .i64 x.am, .int .i64 x.fr, .int .i64 x.tt] g gq 5 w0.heap.size bw k l x.st.toNat (by omega) (by omega) W.drew h1 h2 rfl (by show _ = some _; rw [Int.toNat_of_nonneg (by omega)]; rfl) (by decide) (by decide) (h.wr.below (Below.refl W.heap.size W).drew))
  have HH := Lib.hid h
  have hbx := block_lt h1; have hby := block_lt h2
  clear h1 h2 h3 h4 hB hB1 hfit h
  go_enter Tryz.func138, Tryz.ntmps138
  go_wp2_with fail
  go_still_tail 9, (by kernel_rfl)
  change wpList _ _ _ _ _ (W.drew)
  go_wp2_with fail
  refine HC.out.mono ?_
  rintro e w1 ⟨rfl, hst⟩
  have HST := Lib.hid (wpt_step HH.out (WStep.pre (Below.refl W.heap.size W).drew (by have := HH.out.wr.lt; omega) (hst.mono (show _ ≤ k + 400 by omega))))
  clear hst cx
  go_wp2
  first | go_end0 | refine bodyPost_ret (results_none rfl _ _ _) rfl ?_
  exact ⟨rfl, HST.out⟩

set_option maxRecDepth 4000 in
set_option maxHeartbeats 1000000 in
theorem wpt_amount {w0 W : World} {g gq bw k : Nat} {l : List UInt8} {x : Rqt} (h : WPt w0 g gq bw k l x W) (hB : Rq.partB 139 x = true) (hk : k + 400 ≤ 536870912) : Calls Tryz.prog 139 #[.pointer (some ⟨g, 0, none⟩)] W fun e w' => e = .returned (.tuple #[]) ∧ WPt w0 g gq bw (k + 400) (l ++ Rq.encP 139 x) x w' ∧ Rq.KF W w' := by
  have hB1 : inB 0 1000000000000 x.am = true := hB
  have hfit : 0 ≤ x.am ∧ x.am ≤ 1000000000000 := by unfold inB at hB1; simp only [Bool.and_eq_true, decide_eq_true_eq] at hB1; omega
  obtain ⟨cv, tv, h1, h2, h3, h4⟩ := h.ex
  have cx := fun j => cell_of_row W g j _ _ _ h1
  have HC := Lib.hid (pmoneyW 125 57 #[.pointer (some ⟨bw, 0, none⟩), .pointer none, .bool false, .pointer (some ⟨gq, 0, none⟩)] #[.string x.key, .int .i64 x.k, .int .i64 x.d, .int .u64 x.tk, .int .i64 x.c, .int .i64 x.st, .string x.loc, cv, tv, .int .i64 x.am, .int .i64 x.fr, .int .i64 x.tt] g gq 9 w0.heap.size bw k l x.am.toNat (by omega) (by omega) W.drew h1 h2 rfl (by show _ = some _; rw [Int.toNat_of_nonneg (by omega)]; rfl) (by decide) (by decide) (h.wr.below (Below.refl W.heap.size W).drew))
  have HH := Lib.hid h
  have hbx := block_lt h1; have hby := block_lt h2
  clear h1 h2 h3 h4 hB hB1 hfit h
  go_enter Tryz.func139, Tryz.ntmps139
  go_wp2_with fail
  go_still_tail 9, (by kernel_rfl)
  change wpList _ _ _ _ _ (W.drew)
  go_wp2_with fail
  refine HC.out.mono ?_
  rintro e w1 ⟨rfl, hst⟩
  have HST := Lib.hid (wpt_step HH.out (WStep.pre (Below.refl W.heap.size W).drew (by have := HH.out.wr.lt; omega) (hst.mono (show _ ≤ k + 400 by omega))))
  clear hst cx
  go_wp2
  first | go_end0 | refine bodyPost_ret (results_none rfl _ _ _) rfl ?_
  exact ⟨rfl, HST.out⟩

set_option maxRecDepth 4000 in
set_option maxHeartbeats 1000000 in
theorem wpt_locator {w0 W : World} {g gq bw k : Nat} {l : List UInt8} {x : Rqt} (h : WPt w0 g gq bw k l x W) (hB : Rq.partB 133 x = true) (hk : k + 400 ≤ 536870912) : Calls Tryz.prog 133 #[.pointer (some ⟨g, 0, none⟩)] W fun e w' => e = .returned (.tuple #[]) ∧ WPt w0 g gq bw (k + 400) (l ++ Rq.encP 133 x) x w' ∧ Rq.KF W w' := by
  have hB1 : Num.loc x.loc.data.toList = true := hB
  have hfit : x.loc.size = 6 := by (unfold Num.loc at hB1; simp only [Bool.and_eq_true, decide_eq_true_eq] at hB1; have h6 := hB1.2; have h7 : x.loc.data.toList.length = x.loc.size := (by show x.loc.data.toList.length = x.loc.data.size; simp); omega)
  obtain ⟨cv, tv, h1, h2, h3, h4⟩ := h.ex
  have cx := fun j => cell_of_row W g j _ _ _ h1
  have HC := Lib.hid (ptextW 125 57 #[.pointer (some ⟨bw, 0, none⟩), .pointer none, .bool false, .pointer (some ⟨gq, 0, none⟩)] #[.string x.key, .int .i64 x.k, .int .i64 x.d, .int .u64 x.tk, .int .i64 x.c, .int .i64 x.st, .string x.loc, cv, tv, .int .i64 x.am, .int .i64 x.fr, .int .i64 x.tt] g gq 6 w0.heap.size bw k 188 l x.loc 6 (by omega) W.drew h1 h2 rfl rfl (h.wr.below (Below.refl W.heap.size W).drew))
  have HH := Lib.hid h
  have HS6 := Lib.hid hfit
  have hbx := block_lt h1; have hby := block_lt h2
  clear h1 h2 h3 h4 hB hB1 hfit h
  go_enter Tryz.func133, Tryz.ntmps133
  go_wp2_with fail
  go_still_tail 9, (by kernel_rfl)
  change wpList _ _ _ _ _ (W.drew)
  go_wp2_with fail
  refine HC.out.mono ?_
  rintro e w1 ⟨rfl, hst⟩
  have HST := Lib.hid (wpt_step HH.out (WStep.pre (Below.refl W.heap.size W).drew (by have := HH.out.wr.lt; omega) (hst.mono (show k + 1 + x.loc.size ≤ k + 400 by have := HS6.out; omega))))
  clear hst cx
  go_wp2
  first | go_end0 | refine bodyPost_ret (results_none rfl _ _ _) rfl ?_
  exact ⟨rfl, HST.out⟩

set_option maxRecDepth 4000 in
set_option maxHeartbeats 1000000 in
theorem wpt_days {w0 W : World} {g gq bw k : Nat} {l : List UInt8} {x : Rqt} (h : WPt w0 g gq bw k l x W) (hB : Rq.partB 141 x = true) (hk : k + 400 ≤ 536870912) : Calls Tryz.prog 141 #[.pointer (some ⟨g, 0, none⟩)] W fun e w' => e = .returned (.tuple #[]) ∧ WPt w0 g gq bw (k + 400) (l ++ Rq.encP 141 x) x w' ∧ Rq.KF W w' := by
  have hB1 : (inB 0 1000000 x.fr && inB 0 1000000 x.tt) = true := hB
  have hfit : (0 ≤ x.fr ∧ x.fr ≤ 1000000) ∧ (0 ≤ x.tt ∧ x.tt ≤ 1000000) := by unfold inB at hB1; simp only [Bool.and_eq_true, decide_eq_true_eq] at hB1; omega
  obtain ⟨cv, tv, h1, h2, h3, h4⟩ := h.ex
  have cx := fun j => cell_of_row W g j _ _ _ h1
  have HC := Lib.hid (pdayW 125 57 #[.pointer (some ⟨bw, 0, none⟩), .pointer none, .bool false, .pointer (some ⟨gq, 0, none⟩)] #[.string x.key, .int .i64 x.k, .int .i64 x.d, .int .u64 x.tk, .int .i64 x.c, .int .i64 x.st, .string x.loc, cv, tv, .int .i64 x.am, .int .i64 x.fr, .int .i64 x.tt] g gq 10 w0.heap.size bw k l x.fr.toNat (by omega) (by omega) W.drew h1 h2 rfl (by show _ = some _; rw [Int.toNat_of_nonneg (by omega)]; rfl) (by decide) (by decide) (h.wr.below (Below.refl W.heap.size W).drew))
  have HH := Lib.hid h
  have HFT := Lib.hid hfit
  have hbx := block_lt h1; have hby := block_lt h2
  clear h1 h2 h3 h4 hB hB1 h hfit
  go_enter Tryz.func141, Tryz.ntmps141
  go_wp2_with fail
  go_still_tail 9, (by kernel_rfl)
  change wpList _ _ _ _ _ (W.drew)
  go_wp2_with fail
  refine HC.out.mono ?_
  rintro e w1 ⟨rfl, hst⟩
  have HST := Lib.hid (wpt_step HH.out (WStep.pre (Below.refl W.heap.size W).drew (by have := HH.out.wr.lt; omega) hst))
  clear hst cx hbx hby
  obtain ⟨cv2, tv2, h1, h2, h3, h4⟩ := HST.out.1.ex
  have cx := fun j => cell_of_row w1 g j _ _ _ h1
  have HD := Lib.hid (pdayW 125 57 #[.pointer (some ⟨bw, 0, none⟩), .pointer none, .bool false, .pointer (some ⟨gq, 0, none⟩)] #[.string x.key, .int .i64 x.k, .int .i64 x.d, .int .u64 x.tk, .int .i64 x.c, .int .i64 x.st, .string x.loc, cv2, tv2, .int .i64 x.am, .int .i64 x.fr, .int .i64 x.tt] g gq 11 w0.heap.size bw _ _ x.tt.toNat (by have := HFT.out; omega) (by omega) w1.drew h1 h2 rfl (by show _ = some _; rw [Int.toNat_of_nonneg (by have := HFT.out; omega)]; rfl) (by decide) (by decide) (HST.out.1.wr.below (Below.refl w1.heap.size w1).drew))
  have hbx := block_lt h1; have hby := block_lt h2
  clear h1 h2 h3 h4
  go_wp2_with fail
  go_still_tail 9, (by kernel_rfl)
  change wpList _ _ _ _ _ (w1.drew)
  go_wp2_with fail
  refine HD.out.mono ?_
  rintro e w2 ⟨rfl, hst⟩
  have HSU := Lib.hid (wpt_step HST.out.1 (WStep.pre (Below.refl w1.heap.size w1).drew (by have := HST.out.1.wr.lt; omega) (hst.mono (show _ ≤ k + 400 by omega))))
  clear hst cx
  go_wp2
  first | go_end0 | refine bodyPost_ret (results_none rfl _ _ _) rfl ?_
  refine ⟨rfl, ?_, HST.out.2.trans HSU.out.2⟩
  have h := HSU.out.1
  rw [List.append_assoc] at h
  exact h

set_option maxRecDepth 4000 in
set_option maxHeartbeats 1000000 in
theorem wpt_key {w0 W : World} {g gq bw k : Nat} {l : List UInt8} {x : Rqt} (h : WPt w0 g gq bw k l x W) (hB : Rq.partB 131 x = true) (hk : k + 400 ≤ 536870912) : Calls Tryz.prog 131 #[.pointer (some ⟨g, 0, none⟩)] W fun e w' => e = .returned (.tuple #[]) ∧ WPt w0 g gq bw (k + 400) (l ++ Rq.encP 131 x) x w' ∧ Rq.KF W w' := by
  have hB1 : (inB 1 16 (x.key.size : Int) && Rq.keyB x.key.data.toList) = true := hB
  have hfit : x.key.size ≤ 16 := by unfold inB at hB1; simp only [Bool.and_eq_true, decide_eq_true_eq] at hB1; omega
  obtain ⟨cv, tv, h1, h2, h3, h4⟩ := h.ex
  have cx := fun j => cell_of_row W g j _ _ _ h1
  have cy0 : W.cell? ⟨gq, 0, none⟩ = some (.string x.key) := cell_of_row W gq 0 _ _ _ h2
  have hgl := block_lt h1; have hbl := block_lt h2
  have HBA := Lib.hid ((Below.refl W.heap.size W).alloc (Nat.le_refl _) (.cells #[.int .i64 (x.key.size : Int)] 3))
  have HH := Lib.hid h
  have HW1 := Lib.hid (wpt0 h HBA.out)
  have HM := Lib.hid (new_rowW W (.cells #[.int .i64 (x.key.size : Int)] 3) _ rfl)
  have HFT := Lib.hid hfit
  have hz : x.key.size ≤ 9223372036854775807 := by omega
  clear h1 h2 h3 h4 hB hB1 h hfit
  go_enter Tryz.func131, Tryz.ntmps131
  go_upto_region 1 with fail
  clear cx cy0
  generalize W.alloc (.cells #[.int .i64 (x.key.size : Int)] 3) = w1 at *
  generalize hm : W.heap.size = m at *
  have HWM := Lib.hid hm
  clear hm
  obtain ⟨cv1, tv1, h1, h2, h3, h4⟩ := HW1.out.ex
  have cx := fun j => cell_of_row w1 g j _ _ _ h1
  have HC := Lib.hid (pnumW 125 3 #[.pointer (some ⟨bw, 0, none⟩), .pointer none, .bool false, .pointer (some ⟨gq, 0, none⟩)] #[.int .i64 (x.key.size : Int)] g m 0 w0.heap.size bw k l x.key.size 1 1 16 (by decide) (by have := HFT.out; show x.key.size < 256; omega) (by omega) w1 h1 HM.out rfl rfl (by decide) (by decide) HW1.out.wr)
  clear h1 h2 h3 h4
  go_wp2_with fail
  refine HC.out.mono ?_
  rintro e w2 ⟨rfl, hst⟩
  have HS2 := Lib.hid (wpt_step HW1.out hst)
  have HM2 := Lib.hid (hst.2.2.row HM.out (by decide))
  clear hst cx
  obtain ⟨cv2, tv2, h1, h2, h3, h4⟩ := HS2.out.1.ex
  have cx := fun j => cell_of_row w2 g j _ _ _ h1
  have cm := cell_of_row w2 m 0 _ _ _ HM2.out
  have HD := Lib.hid (ptextW 125 57 #[.pointer (some ⟨bw, 0, none⟩), .pointer none, .bool false, .pointer (some ⟨gq, 0, none⟩)] #[.string x.key, .int .i64 x.k, .int .i64 x.d, .int .u64 x.tk, .int .i64 x.c, .int .i64 x.st, .string x.loc, cv2, tv2, .int .i64 x.am, .int .i64 x.fr, .int .i64 x.tt] g gq 0 w0.heap.size bw (k + 9) 28 _ x.key (x.key.size : Int) (by have := HFT.out; omega) w2.drew h1 h2 rfl rfl (HS2.out.1.wr.below (Below.refl w2.heap.size w2).drew))
  have hbx := block_lt h1; have hby := block_lt h2
  clear h1 h2 h3 h4
  go_wp2_with fail
  go_still_tail 10, (by kernel_rfl)
  change wpList _ _ _ _ _ (w2.drew)
  go_wp2_with fail
  refine HD.out.mono ?_
  rintro e w3 ⟨rfl, hst⟩
  have HSU := Lib.hid (wpt_step HS2.out.1 (WStep.pre (Below.refl w2.heap.size w2).drew (by have := HS2.out.1.wr.lt; omega) (hst.mono (show k + 9 + 1 + x.key.size ≤ k + 400 by have := HFT.out; omega))))
  have HKF : Hid (Rq.KF W w1) := Lib.hid (Rq.KF.of_below (by rw [HWM.out]; exact HBA.out))
  clear hst cx cm
  go_wp2
  first | go_end0 | refine bodyPost_ret (results_none rfl _ _ _) rfl ?_
  refine ⟨rfl, ?_, HKF.out.trans (HS2.out.2.trans HSU.out.2)⟩
  have h := HSU.out.1
  rw [List.append_assoc] at h
  exact h
end Go.Proofs.YtbmphlpmipkpcaaGreat
