/- NumberStocks returns true for all stocks, indexes, numbers and ends and leaves the memory that was there as it was. -/
import Derived.Test.YtajpggnmhkpbkaaStkA
import Derived.Test.YtajpggnmhkpbkaaLift
import Derived.Test.YtajpggnmhkpbkaaLater
import Derived.Lib.SmallJoins
import Derived.RangeFuncFrom
import Derived.Deep.DeepCutAuto
import Derived.Deep.Cut
import Derived.Deep.CutRange
set_option linter.unusedVariables false
set_option linter.unusedSimpArgs false
namespace Go.Proofs.Ytajpggnmhkpbkaa.numberStocks
open Go.ChangeShapes Go.WideShapes Go.ChangeAt Go.RowKit Go.Joins Go.Shelf

theorem stockCells : Try.prog.cellsOf 23 = 3 := by kernel_rfl
theorem i64_bd {n : Int} (h : (Lit.int .i64 n).wf = true) : -9223372036854775808 ≤ n ∧ n ≤ 9223372036854775807 := by
  simpa [Lit.wf, IntKind.min, IntKind.max, IntKind.signed, IntKind.bits] using h
theorem u64_bd {n : Int} (h : (Lit.int .u64 n).wf = true) : 0 ≤ n ∧ n ≤ 18446744073709551615 := by
  simpa [Lit.wf, IntKind.min, IntKind.max, IntKind.signed, IntKind.bits] using h
set_option maxRecDepth 100000 in
theorem open_stock {H : Type} {enc : TypeId × Value → H} {W : World} {base : Nat} {v : Value} {d : DataW H} {ps : List MemPlace}
    (hv : Value.okWide Try.prog W .any base 23 v) (h : DataW.Trod enc Try.prog W 0 (fun _ => true) true 23 v d ps) :
    ∃ c f n : Int, v = .agg #[.int .i64 c, .int .i64 f, .int .i64 n] ∧ (Lit.int .i64 c).wf = true ∧ (Lit.int .i64 f).wf = true ∧ (Lit.int .i64 n).wf = true := by
  obtain ⟨c0, c1, c2, y0, y1, y2, m, rfl, rfl, rfl, hy0, hy1, hy2⟩ := open_agg3 Try.underlying23 (by kernel_rfl) stockCells hv h
  obtain ⟨a, e0, rfl, wa⟩ := DataW.trod_int Try.underlying3 hy0
  obtain ⟨b, e1, rfl, wb⟩ := DataW.trod_int Try.underlying3 hy1
  obtain ⟨c, e2, rfl, wc⟩ := DataW.trod_int Try.underlying3 hy2
  simp at e0 e1 e2
  subst e0 e1 e2
  exact ⟨a, b, c, rfl, wa, wb, wc⟩

/-- the law's own boxes: the stock, where to leave, what is told -/
structure At (g : Nat) (c f n leave : Int) (W : World) : Prop where
  c0 : W.cell? ⟨g, 0, none⟩ = some (.int .i64 c)
  c1 : W.cell? ⟨g, 1, none⟩ = some (.int .i64 f)
  c2 : W.cell? ⟨g, 2, none⟩ = some (.int .i64 n)
  cl : W.cell? ⟨g + 1, 0, none⟩ = some (.int .i64 leave)
  cr : W.cell? ⟨g + 1 + 1, 0, none⟩ = some (.bool false)
  fl : W.frozen? ⟨g + 1, 0, none⟩ = false
  fr : W.frozen? ⟨g + 1 + 1, 0, none⟩ = false
  sz : g + 1 + 1 + 1 ≤ W.heap.size
theorem At.of {g : Nat} {c f n leave : Int} {W W' : World} (h : At g c f n leave W) (hs : W.heap.size ≤ W'.heap.size) (hb : ∀ b, b < g + 3 → W'.heap[b]? = W.heap[b]?) : At g c f n leave W' := by
  have k : ∀ b o, b < g + 3 → W'.cell? ⟨b, o, none⟩ = W.cell? ⟨b, o, none⟩ := fun b o hl => World.cell?_of_block (w := W) (a := ⟨b, o, none⟩) (hb b hl)
  have q : ∀ b o, b < g + 3 → W'.frozen? ⟨b, o, none⟩ = W.frozen? ⟨b, o, none⟩ := fun b o hl => World.frozen?_of_block (w := W) (a := ⟨b, o, none⟩) (hb b hl)
  exact ⟨(k _ _ (by omega)).trans h.c0, (k _ _ (by omega)).trans h.c1, (k _ _ (by omega)).trans h.c2, (k _ _ (by omega)).trans h.cl, (k _ _ (by omega)).trans h.cr, (q _ _ (by omega)).trans h.fl, (q _ _ (by omega)).trans h.fr, Nat.le_trans h.sz hs⟩
theorem At.below {g : Nat} {c f n leave : Int} {W W' : World} (h : At g c f n leave W) (hb : Below W.heap.size W W') : At g c f n leave W' :=
  h.of hb.size fun b hl => hb.block b (by have := h.sz; omega)
theorem at_leave {g : Nat} {c f n leave : Int} {W : World} (h : At g c f n leave W) (L : Int) : At g c f n L (W.setCell ⟨g + 1, 0, none⟩ (.int .i64 L)) := by
  have k : ∀ b o, b ≠ g + 1 → (W.setCell ⟨g + 1, 0, none⟩ (.int .i64 L)).cell? ⟨b, o, none⟩ = W.cell? ⟨b, o, none⟩ := fun b o hl => World.cell?_of_block (w := W) (a := ⟨b, o, none⟩) (Below.heap_setCell _ _ _ _ hl)
  exact ⟨(k _ _ (by omega)).trans h.c0, (k _ _ (by omega)).trans h.c1, (k _ _ (by omega)).trans h.c2, World.cell?_setCell_same' _ _ _ (by rw [h.cl]; rfl), (k _ _ (by omega)).trans h.cr, by rw [World.frozen?_setCell]; exact h.fl, by rw [World.frozen?_setCell]; exact h.fr, by simpa using h.sz⟩
theorem new_rowS (w : World) (o : Obj) : (w.alloc o).heap[w.heap.size]? = some o := World.alloc_heap_new w o
theorem at_new (w : World) (c f n leave : Int) (x y z : TypeId) : At w.heap.size c f n leave (((w.alloc (.cells #[.int .i64 c, .int .i64 f, .int .i64 n] x)).alloc (.cells #[.int .i64 leave] y)).alloc (.cells #[.bool false] z)) := by
  have r0 := new_rowS w (.cells #[.int .i64 c, .int .i64 f, .int .i64 n] x)
  have b1 := (Below.refl (w.heap.size + 1) (w.alloc (.cells #[.int .i64 c, .int .i64 f, .int .i64 n] x))).alloc (by simp) (.cells #[.int .i64 leave] y)
  have b2 := b1.alloc (by simp) (.cells #[.bool false] z)
  have r1 := new_rowS (w.alloc (.cells #[.int .i64 c, .int .i64 f, .int .i64 n] x)) (.cells #[.int .i64 leave] y)
  have b3 := (Below.refl (w.heap.size + 1 + 1) ((w.alloc (.cells #[.int .i64 c, .int .i64 f, .int .i64 n] x)).alloc (.cells #[.int .i64 leave] y))).alloc (by simp) (.cells #[.bool false] z)
  have r2 := new_rowS ((w.alloc (.cells #[.int .i64 c, .int .i64 f, .int .i64 n] x)).alloc (.cells #[.int .i64 leave] y)) (.cells #[.bool false] z)
  rw [World.size_alloc] at r1
  rw [World.size_alloc, World.size_alloc] at r2
  have q0 := (b2.block w.heap.size (by omega)).trans r0
  have q1 := (b3.block (w.heap.size + 1) (by omega)).trans r1
  refine ⟨by rw [cell_of_row _ _ 0 _ _ _ q0]; rfl, by rw [cell_of_row _ _ 1 _ _ _ q0]; rfl, by rw [cell_of_row _ _ 2 _ _ _ q0]; rfl, by rw [cell_of_row _ _ 0 _ _ _ q1]; rfl, by rw [cell_of_row _ _ 0 _ _ _ r2]; rfl, frozen_of_row _ _ 0 _ _ q1, frozen_of_row _ _ 0 _ _ r2, by simp⟩

theorem guardFn (x y : Operand) (fn : Fn) (fi ca : Array Value) (w : World) : (eqGuard .eql 31 x y (.func fn fi ca) .nilFunc).run Try.prog w = .ok () w := rfl
theorem eqFn (fn : Fn) (fi ca : Array Value) (w : World) : (binOp .eql 31 (.func fn fi ca) .nilFunc).run Try.prog w = .ok (.bool false) w := by
  have hu := run_underlying (P := Try.prog) Try.underlying31
  have h1 : ∀ d, (Op.equalIn (d + 1) 31 (.func fn fi ca) .nilFunc).run Try.prog w = .ok false w := fun d => by
    rw [Op.equalIn, Sem.run_bind, hu]
    rfl
  have h2 := h1 9999
  show Sem.run Try.prog (do pure (Value.bool (← Op.equal 31 (.func fn fi ca) .nilFunc))) w = _
  unfold Op.equal Op.maxDepth
  rw [Sem.run_bind, h2]
  rfl

/-- of the blocks that were there gk alone may be another one -/
def Sole (gk : Nat) (w w' : World) : Prop := w'.os = w.os ∧ w'.tape = w.tape ∧ w'.output = w.output ∧ w.heap.size ≤ w'.heap.size ∧ ∀ k, k < w.heap.size → k ≠ gk → w'.heap[k]? = w.heap[k]?
theorem Sole.refl (gk : Nat) (w : World) : Sole gk w w := ⟨rfl, rfl, rfl, Nat.le_refl _, fun _ _ _ => rfl⟩
theorem Sole.trans {gk : Nat} {a b c : World} (h : Sole gk a b) (k : Sole gk b c) : Sole gk a c :=
  ⟨k.1.trans h.1, k.2.1.trans h.2.1, k.2.2.1.trans h.2.2.1, Nat.le_trans h.2.2.2.1 k.2.2.2.1, fun i hi hg => (k.2.2.2.2 i (Nat.lt_of_lt_of_le hi h.2.2.2.1) hg).trans (h.2.2.2.2 i hi hg)⟩
theorem Sole.of_below {gk : Nat} {a w : World} (h : Below a.heap.size a w) : Sole gk a w := ⟨h.os, h.tape, h.output, h.size, fun k hk _ => h.block k hk⟩
theorem Sole.setCell {gk : Nat} {a w : World} (h : Sole gk a w) (o : Nat) (u : Value) : Sole gk a (w.setCell ⟨gk, o, none⟩ u) :=
  h.trans ⟨rfl, rfl, rfl, by simp [World.setCell], fun k hk hn => Below.heap_setCell _ _ _ _ hn⟩
theorem Sole.below {B gk : Nat} {a w w' : World} (h : Below B a w) (hg : B ≤ gk) (hB : B ≤ w.heap.size) (k : Sole gk w w') : Below B a w' :=
  h.trans ⟨k.1, k.2.1, k.2.2.1, k.2.2.2.1, fun i hi => k.2.2.2.2 i (by omega) (by omega)⟩
theorem Sole.own {β : Type} {B gk : Nat} {W0 : World} (hB : W0.heap.size ≤ B) : OwnFrom B (fun (_ : β) W => Sole gk W0 W) := fun _ A A' row hs hg hr =>
  ⟨hg.os.trans hs.1, hg.tape.trans hs.2.1, hg.output.trans hs.2.2.1, Nat.le_trans hs.2.2.2.1 hg.size, fun k hk hn => (hg.block k (by have := hs.2.2.2.1; omega) (fun e => by have := (hr k e.symm).1; omega)).trans (hs.2.2.2.2 k hk hn)⟩
theorem At.sole {g gk : Nat} {c f n leave : Int} {W W' : World} (h : At g c f n leave W) (hs : Sole gk W W') (hg : g + 3 ≤ gk) : At g c f n leave W' :=
  h.of hs.2.2.2.1 fun b hb => hs.2.2.2.2 b (by have := h.sz; omega) (by omega)
theorem join_post {F : Fence} {n id : Nat} {P : Program} {c : Code} {Q : Exit → Act → World → Prop} {A : Act} {W0 : World} (R : Nat → World → Prop)
    (h1 : ∀ Q' : Exit → Act → World → Prop, (∀ D W, R D W → Q' .normal { A with defers := { target := .collected D, args := #[] } :: A.defers } W) → c.wpIn F n P (Exit.inBlock id Q') A W0)
    (h2 : ∀ D W, R D W → Q .normal { A with defers := { target := .collected D, args := #[] } :: A.defers } W) : c.wpIn F n P (Exit.inBlock id Q) A W0 := h1 Q h2
theorem mkN_bound (c s : Int) : 0 ≤ Num.mkN c s ∧ Num.mkN c s ≤ 18446744073709551615 := by
  unfold Num.mkN
  split
  · rename_i h
    rw [Bool.and_eq_true] at h
    have := Num.make_bound c s h.1 h.2
    omega
  · omega
theorem pre_not (c f : Int) (pre : List (Nat × Int)) (x1 : Nat) (x2 : Int) (h : x1 ≠ pre.length ∨ x2 ≠ Num.mkN c (f + (pre.length : Int))) : ∀ k, pre ++ [(x1, x2)] ≠ Num.upto c f k := by
  intro k e
  have hl := congrArg List.length e
  rw [Num.upto_length, List.length_append] at hl
  have hk : k = pre.length + 1 := by rw [← hl]; rfl
  subst hk
  rw [Num.upto_succ] at e
  have h2 := (List.append_inj' e rfl).2
  injection h2 with h2
  injection h2 with h3 h4
  rcases h with h | h
  · exact h h3
  · exact h h4
theorem in_make {c f n i : Int} (hm : Num.mayStock c f n = true) (h0 : 0 ≤ i) (h1 : i < n) : Num.inStock c f n (Num.mkN c (f + i)) = true := by
  obtain ⟨b0, ⟨b1, b2⟩, b3, b4⟩ := Num.mayStock_iff.1 hm
  have hc : Num.mayC c = true := Num.mayC_iff.2 b0
  have hs : Num.mayS (f + i) = true := Num.mayS_iff.2 (by omega)
  obtain ⟨e0, e1, e2⟩ := Num.make_check c (f + i) hc hs
  have e3 : Num.mkN c (f + i) = Num.make c (f + i) := by unfold Num.mkN; rw [if_pos (by rw [hc, hs]; rfl)]
  rw [e3]
  unfold Num.inStock
  rw [hm, e1, e2]
  simp
  omega

attribute [local go_sem] guardFn eqFn

set_option maxRecDepth 100000 in
set_option maxHeartbeats 4000000 in
theorem walk_no (c f n i m leave : Int) (wn : (Lit.int .i64 n).wf = true) (wi : (Lit.int .i64 i).wf = true) (wm : (Lit.int .u64 m).wf = true) (hmay : Num.mayStock c f n = false) (w : World) :
    Calls Try.prog 3 #[.agg #[.int .i64 c, .int .i64 f, .int .i64 n], .int .i64 i, .int .u64 m, .int .i64 leave] w fun e w' => e = .returned (.bool true) ∧ Below w.heap.size w w' := by
  have bn := i64_bd wn
  obtain ⟨bm0, bm1⟩ := u64_bd wm
  have HMS := Lib.hid (fun W => by have := rMayStock_any c f n bn W; rwa [hmay] at this)
  have HPS := Lib.hid (fun W => by have := mayStock_any c f n bn W; rwa [hmay] at this)
  have HNT := Lib.hid (fun W => by
    have := nth_any c f n i bn W
    rw [show Num.nthN c f n i = 0 from by unfold Num.nthN; rw [hmay]; simp, show Num.nthE c f n i = 2 from by unfold Num.nthE; rw [hmay]; simp] at this
    exact this)
  have hin : Num.inStock c f n m = false := by unfold Num.inStock; rw [hmay]; rfl
  have HIN := Lib.hid (fun W => by have := in_any c f n m bn bm0 bm1 W; rwa [hin] at this)
  have HRI := Lib.hid (fun W => by have := rIn_any c f n m bn bm0 bm1 W; rwa [hin] at this)
  have HMY := Lib.hid hmay
  clear hmay wi wm hin wn
  refine (callsIn_wide (n := 6)).1 (callsIn_of_wp_marks Try.func3 rfl trivial ?_ rfl)
  refine wpIn_wide.2 ?_
  simp only [Try.ntmps3, List.size_toArray, List.length_cons, List.length_nil, Nat.reduceAdd, Nat.reduceSub, Array.replicate_succ, Array.replicate_zero, List.push_toArray, List.append_toArray, List.nil_append, List.cons_append]
  go_wp2_with fail
  have HB0 := Lib.hid ((((Below.refl w.heap.size w).alloc (Nat.le_refl _) (.cells #[.int .i64 c, .int .i64 f, .int .i64 n] 23)).alloc (by simp) (.cells #[.int .i64 leave] 3)).alloc (by simp; omega) (.cells #[.bool false] 4))
  have HA0 := Lib.hid (at_new w c f n leave 23 3 4)
  generalize ((w.alloc (.cells #[.int .i64 c, .int .i64 f, .int .i64 n] 23)).alloc (.cells #[.int .i64 leave] 3)).alloc (.cells #[.bool false] 4) = W0 at *
  generalize hg : w.heap.size = g at *
  refine (HMS.out _).mono ?_
  rintro e w1 ⟨rfl, hb1⟩
  have HB1 := Lib.hid (HB0.out.trans (hb1.mono (by have := HA0.out.sz; omega)))
  have HA1 := Lib.hid (HA0.out.below hb1)
  obtain ⟨c0, c1, c2, cl, cr, fl, fr, sz⟩ := HA1.out
  clear hb1 HA0 HB0
  go_wp2_with fail
  refine (HNT.out _).mono ?_
  rintro e w2 ⟨rfl, hb2⟩
  have HB2 := Lib.hid (HB1.out.trans (hb2.mono (by have := HA1.out.sz; omega)))
  have HA2 := Lib.hid (HA1.out.below hb2)
  clear c0 c1 c2 cl cr fl fr sz
  obtain ⟨c0, c1, c2, cl, cr, fl, fr, sz⟩ := HA2.out
  clear hb2 HA1 HB1
  go_wp2_with fail
  have hL := @Later.cell
  have hlt : g < w2.heap.size := by omega
  refine wp_region_later (by kernel_rfl) (by kernel_rfl) ?_
  repeat (go_big_quiet_step (first | (go_at_call 8; exact later_call (HPS.out _)) | (go_at_call 9; exact later_call (HIN.out _)) | (go_at_call 10; exact later_call (HRI.out _))))
  refine wpQuiet_nil ?_
  rintro w3 ⟨u, rfl⟩
  have HB3 := Lib.hid (HB2.out.trans (u.prop.mono (by have := HA2.out.sz; omega)))
  have HA3 := Lib.hid (HA2.out.below u.prop)
  clear c0 c1 c2 cl cr fl fr sz hL
  obtain ⟨c0, c1, c2, cl, cr, fl, fr, sz⟩ := HA3.out
  clear HA2 HB2
  generalize u.val = w3 at *
  clear u
  go_wp2_with (first | (go_at_call 11; refine (all_any _ _ _ _).mono ?_; rintro e w4 ⟨rfl, rfl⟩))
  have hA4 := HA3.out.below ((Below.refl w3.heap.size w3).alloc (Nat.le_refl _) (.cells #[.int .i64 c, .int .i64 f, .int .i64 n] 23))
  have hB4 := HB3.out.alloc (by have := HA3.out.sz; omega) (.cells #[.int .i64 c, .int .i64 f, .int .i64 n] 23)
  have hrow := new_rowS w3 (.cells #[.int .i64 c, .int .i64 f, .int .i64 n] 23)
  have hsz4 : w3.heap.size < (w3.alloc (.cells #[.int .i64 c, .int .i64 f, .int .i64 n] 23)).heap.size := by simp
  have HA4 := Lib.hid hA4; have HB4 := Lib.hid hB4; have HR4 := Lib.hid hrow
  clear c0 c1 c2 cl cr fl fr sz hA4 hB4 hrow HA3 HB3
  generalize w3.alloc (.cells #[.int .i64 c, .int .i64 f, .int .i64 n] 23) = W4 at *
  generalize w3.heap.size = gb at *
  refine (wpIn_wide (n := 6)).1 ?_
  refine wpIn_rangeFunc_ownF (n := 6) rfl (by decide) (gf := 29) (lb := #[.pointer (some ⟨gb, 0, none⟩)]) rfl trivial (enters_of Try.func29 (by kernel_rfl) rfl)
    (all_stops 5 (by decide) gb W4.heap.size c f n bn 0 (by rw [HMY.out]; rfl) hsz4 W4 (Nat.le_refl _) (by rw [cell_of_row _ _ 0 _ _ _ HR4.out]; rfl) (by rw [cell_of_row _ _ 1 _ _ _ HR4.out]; rfl) (by rw [cell_of_row _ _ 2 _ _ _ HR4.out]; rfl)) belowK_t (belowK_b (Nat.le_refl _)) (Below.refl _ _) (fun _ => rfl)
    (fun _ W => Below W4.heap.size W4 W) (fun _ _ _ => False) (ownFrom_below (Nat.le_refl _) (Nat.le_refl _)) (fun _ _ _ _ _ hs _ _ => hs) (Below.refl _ _) ?actN ?assign ?body ?done ?stop
  case assign =>
    intro l x W K hK
    gi_wp2
    exact hK
  case body =>
    intro l pre x W _ hlt
    exact absurd hlt (Nat.not_lt_zero _)
  case stop =>
    rintro D c pre W _ _ h _
    exact h.elim
  case done =>
    rintro D ys W hD rfl hB hK
    have HB5 := Lib.hid (HB4.out.trans (hB.mono (by have := HA4.out.sz; omega)))
    have HA5 := Lib.hid (HA4.out.below hB)
    have HK := Lib.hid hK; clear hK
    have HA4s := Lib.hid (show g ≤ D by have := HA4.out.sz; omega)
    obtain ⟨c0, c1, c2, cl, cr, fl, fr, sz⟩ := HA5.out
    clear HA4 HB4 hB
    go_wp2_with (first | (go_at_call 12; refine (known_any _).mono ?_; rintro e w' ⟨rfl, rfl⟩))
    have hK2 := (KeepsOthers.setCell W ⟨g + 1 + 1, 0, none⟩ (.bool true)).same D _ HK.out rfl
    refine ⟨by simp, .inl ⟨_, _, rfl, run_takeDeferred hK2, ?_⟩⟩
    have hc5 := cell_kept (World.cell?_setCell_same' W ⟨g + 1 + 1, 0, none⟩ (.bool true) (by rw [cr]; rfl)) (grownBy_putObj' _ D (.deferred none)) (fun r e => by cases e; exact ⟨_, hK2, rfl⟩)
    refine ⟨.bool true, ?_, rfl, ?_⟩
    · simp [results, Try.f3, go_sem, hc5]
    · have h1 := HB5.out.setCell (p := ⟨g + 1 + 1, 0, none⟩) (by simp; omega) (.bool true)
      have h2 := belowK_b (w := w) (Nat.le_refl _) (W.setCell ⟨g + 1 + 1, 0, none⟩ (.bool true)) D _ (.deferred none) (by have := HA4s.out; omega) hK2 rfl rfl
      rw [hg] at h2 ⊢
      exact h1.trans h2

/- a stock that may be -/
attribute [local go_sem] Oper.semAt_some

set_option maxRecDepth 100000 in
set_option maxHeartbeats 8000000 in
theorem walk_yes (c f n i m leave : Int) (wn : (Lit.int .i64 n).wf = true) (wi : (Lit.int .i64 i).wf = true) (wm : (Lit.int .u64 m).wf = true) (hmay : Num.mayStock c f n = true) (w : World) :
    Calls Try.prog 3 #[.agg #[.int .i64 c, .int .i64 f, .int .i64 n], .int .i64 i, .int .u64 m, .int .i64 leave] w fun e w' => e = .returned (.bool true) ∧ Below w.heap.size w w' := by
  have bn := i64_bd wn
  have bi := i64_bd wi
  obtain ⟨bm0, bm1⟩ := u64_bd wm
  have HBS := Lib.hid (Num.mayStock_iff.1 hmay)
  have HMS := Lib.hid (fun W => by have := rMayStock_any c f n bn W; rwa [hmay] at this)
  have HPS := Lib.hid (fun W => by have := mayStock_any c f n bn W; rwa [hmay] at this)
  obtain ⟨r, hr⟩ : ∃ r : Bool, Num.inStock c f n m = r := ⟨_, rfl⟩
  have HIN := Lib.hid (fun W => by have := in_any c f n m bn bm0 bm1 W; rwa [hr] at this)
  have HRI := Lib.hid (fun W => by have := rIn_any c f n m bn bm0 bm1 W; rwa [hr] at this)
  obtain ⟨x, hx⟩ : ∃ x, Num.nthN c f n i = x := ⟨_, rfl⟩
  obtain ⟨er, her⟩ : ∃ er, Num.nthE c f n i = er := ⟨_, rfl⟩
  have HNT := Lib.hid (fun W => by have := nth_any c f n i bn W; rwa [hx, her] at this)
  have HXE : Hid ((0 ≤ i ∧ i < n ∧ x = Num.mkN c (f + i) ∧ er = 0) ∨ ((i < 0 ∨ n ≤ i) ∧ x = 0 ∧ er = 12)) := Lib.hid (by
    by_cases h : 0 ≤ i ∧ i < n
    · refine .inl ⟨h.1, h.2, ?_, ?_⟩
      · rw [← hx]; unfold Num.nthN; rw [if_pos ⟨hmay, h⟩]
      · rw [← her]; unfold Num.nthE; rw [if_pos hmay, if_pos h]
    · refine .inr ⟨by omega, ?_, ?_⟩
      · rw [← hx]; unfold Num.nthN; rw [if_neg (fun h' => h h'.2)]
      · rw [← her]; unfold Num.nthE; rw [if_pos hmay, if_neg h])
  have HMY := Lib.hid hmay
  clear hmay wm wn wi hr hx her
  refine (callsIn_wide (n := 6)).1 (callsIn_of_wp_marks Try.func3 rfl trivial ?_ rfl)
  refine wpIn_wide.2 ?_
  simp only [Try.ntmps3, List.size_toArray, List.length_cons, List.length_nil, Nat.reduceAdd, Nat.reduceSub, Array.replicate_succ, Array.replicate_zero, List.push_toArray, List.append_toArray, List.nil_append, List.cons_append]
  go_wp2_with fail
  have HB0 := Lib.hid ((((Below.refl w.heap.size w).alloc (Nat.le_refl _) (.cells #[.int .i64 c, .int .i64 f, .int .i64 n] 23)).alloc (by simp) (.cells #[.int .i64 leave] 3)).alloc (by simp; omega) (.cells #[.bool false] 4))
  have HA0 := Lib.hid (at_new w c f n leave 23 3 4)
  generalize ((w.alloc (.cells #[.int .i64 c, .int .i64 f, .int .i64 n] 23)).alloc (.cells #[.int .i64 leave] 3)).alloc (.cells #[.bool false] 4) = W0 at *
  generalize hg : w.heap.size = g at *
  refine (HMS.out _).mono ?_
  rintro e w1 ⟨rfl, hb1⟩
  have HB1 := Lib.hid (HB0.out.trans (hb1.mono (by have := HA0.out.sz; omega)))
  have HA1 := Lib.hid (HA0.out.below hb1)
  obtain ⟨c0, c1, c2, cl, cr, fl, fr, sz⟩ := HA1.out
  clear hb1 HA0 HB0
  go_wp2_with fail
  refine (HNT.out _).mono ?_
  rintro e w2 ⟨rfl, hb2⟩
  have HB2 := Lib.hid (HB1.out.trans (hb2.mono (by have := HA1.out.sz; omega)))
  have HA2 := Lib.hid (HA1.out.below hb2)
  clear c0 c1 c2 cl cr fl fr sz
  obtain ⟨c0, c1, c2, cl, cr, fl, fr, sz⟩ := HA2.out
  clear hb2 HA1 HB1
  go_wp2_with fail
  have hL := @Later.cell
  have hlt : g < w2.heap.size := by omega
  refine wp_region_later (by kernel_rfl) (by kernel_rfl) ?_
  repeat (go_big_quiet_step (first | (go_at_call 8; exact later_call (HPS.out _)) | (go_at_call 9; exact later_call (HIN.out _)) | (go_at_call 10; exact later_call (HRI.out _))))
  refine wpQuiet_nil ?_
  rintro w3 ⟨u, rfl⟩
  have HB3 := Lib.hid (HB2.out.trans (u.prop.mono (by have := HA2.out.sz; omega)))
  have HA3 := Lib.hid (HA2.out.below u.prop)
  clear c0 c1 c2 cl cr fl fr sz hL hlt
  obtain ⟨c0, c1, c2, cl, cr, fl, fr, sz⟩ := HA3.out
  clear HA2 HB2
  generalize u.val = w3 at *
  clear u
  go_wp2_with fail
  refine (all_any _ _ _ _).mono ?_
  rintro e w4 ⟨rfl, rfl⟩
  have hA4 := HA3.out.below ((Below.refl w3.heap.size w3).alloc (Nat.le_refl _) (.cells #[.int .i64 c, .int .i64 f, .int .i64 n] 23))
  have hB4 := HB3.out.alloc (by have := HA3.out.sz; omega) (.cells #[.int .i64 c, .int .i64 f, .int .i64 n] 23)
  have hrow := new_rowS w3 (.cells #[.int .i64 c, .int .i64 f, .int .i64 n] 23)
  have hsz4 : w3.heap.size < (w3.alloc (.cells #[.int .i64 c, .int .i64 f, .int .i64 n] 23)).heap.size := by simp
  have HA4 := Lib.hid hA4; have HB4 := Lib.hid hB4; have HR4 := Lib.hid hrow
  have HS4 := Lib.hid hsz4
  have HG4 : Hid (g + 3 ≤ w3.heap.size) := Lib.hid (by have := HA3.out.sz; omega)
  clear c0 c1 c2 cl cr fl fr sz hA4 hB4 hrow HA3 HB3 hsz4
  generalize w3.alloc (.cells #[.int .i64 c, .int .i64 f, .int .i64 n] 23) = W4 at *
  generalize w3.heap.size = gb at *
  clear w1 w2 w3 W0
  obtain ⟨c0, c1, c2, cl, cr, fl, fr, sz⟩ := HA4.out
  go_upto_region 12 with fail
  obtain ⟨b, hb⟩ : ∃ b : Bool, (decide (i < 0) || decide (n ≤ i)) = b := ⟨_, rfl⟩
  have HBB := Lib.hid hb; clear hb
  go_cut [67] from 13 (fun cv wx => cv = .bool b ∧ wx = W4)
  case first =>
    by_cases h0 : i < 0
    · have H0 := Lib.hid h0
      go_wp2
      all_goals go_meet
      all_goals exact ⟨by rw [← HBB.out]; simp [H0.out], rfl⟩
    · have H0 := Lib.hid h0
      by_cases h1 : n ≤ i
      · have H1 := Lib.hid h1
        go_wp2
        all_goals go_meet
        all_goals exact ⟨by rw [← HBB.out]; simp [H1.out], rfl⟩
      · have H1 := Lib.hid h1
        go_wp2
        all_goals go_meet
        all_goals exact ⟨by rw [← HBB.out]; simp [H0.out, H1.out], rfl⟩
  case rest =>
    obtain ⟨rfl, rfl⟩ := hcut
    clear c0 c1 c2 cl cr fl fr sz
    obtain ⟨c0, c1, c2, cl, cr, fl, fr, sz⟩ := HA4.out
    go_upto_if 67 with fail
    go_cut [] from 13 (fun wx => Below g w wx ∧ At g c f n leave wx ∧ wx.heap[gb]? = some (.cells #[.int .i64 c, .int .i64 f, .int .i64 n] 23 (0, 0)) ∧ gb < wx.heap.size)
    case first =>
      cases b
      · obtain ⟨h0, h1, rfl, rfl⟩ : 0 ≤ i ∧ i < n ∧ x = Num.mkN c (f + i) ∧ er = 0 := by
          rcases HXE.out with h | ⟨h, _⟩
          · exact h
          · have := HBB.out; simp at this; omega
        have HMK := Lib.hid (fun W => rMake_any c (f + i) W)
        have hq : (Num.mayC c && Num.mayS (f + i)) = true := by rw [Bool.and_eq_true, Num.mayC_iff, Num.mayS_iff]; have := HBS.out; omega
        rw [hq] at HMK
        have HIX := Lib.hid (fun W => by
          have h2 := mkN_bound c (f + i)
          have := in_any c f n (Num.mkN c (f + i)) bn h2.1 h2.2 W
          rwa [in_make HMY.out h0 h1] at this)
        clear hq
        obtain ⟨b0, ⟨b1, b2⟩, b3, b4⟩ := HBS.out
        go_wp2_with fail
        refine (HMK.out _).mono ?_
        rintro e w5 ⟨rfl, hb5⟩
        have HA5 := Lib.hid (HA4.out.below hb5)
        have HB5 := Lib.hid (HB4.out.trans (hb5.mono (by have := HA4.out.sz; omega)))
        have HR5 := Lib.hid ((hb5.block gb HS4.out).trans HR4.out)
        have HS5 := Lib.hid (Nat.lt_of_lt_of_le HS4.out hb5.size)
        clear c0 c1 c2 cl cr fl fr sz hb5
        obtain ⟨c0, c1, c2, cl, cr, fl, fr, sz⟩ := HA5.out
        go_wp2_with fail
        refine (HIX.out _).mono ?_
        rintro e w6 ⟨rfl, hb6⟩
        have HA6 := Lib.hid (HA5.out.below hb6)
        have HB6 := Lib.hid (HB5.out.trans (hb6.mono (by have := HA5.out.sz; omega)))
        have HR6 := Lib.hid ((hb6.block gb HS5.out).trans HR5.out)
        have HS6 := Lib.hid (Nat.lt_of_lt_of_le HS5.out hb6.size)
        clear c0 c1 c2 cl cr fl fr sz hb6
        go_wp2_with fail
        all_goals go_meet
        all_goals exact ⟨HB6.out, HA6.out, HR6.out, HS6.out⟩
      · obtain ⟨rfl, rfl⟩ : x = 0 ∧ er = 12 := by
          rcases HXE.out with ⟨h1, h2, _⟩ | ⟨_, h⟩
          · have := HBB.out; simp at this; omega
          · exact h
        go_wp2_with fail
        all_goals go_meet
        all_goals exact ⟨HB4.out, HA4.out, HR4.out, HS4.out⟩
    case rest =>
      obtain ⟨hb5, ha5, hr5, hs5⟩ := hcut
      have HB5 := Lib.hid hb5; have HA5 := Lib.hid ha5; have HR5 := Lib.hid hr5; have HS5 := Lib.hid hs5
      clear hb5 ha5 hr5 hs5 c0 c1 c2 cl cr fl fr sz HB4 HA4 HR4 HS4 HNT HMS HPS HIN HRI HXE HBB bi
      obtain ⟨c0, c1, c2, cl, cr, fl, fr, sz⟩ := HA5.out
      go_upto_region 18 with fail
      obtain ⟨b', hb'⟩ : ∃ b : Bool, (decide (leave < 1) || decide (300 < leave)) = b := ⟨_, rfl⟩
      have HBB := Lib.hid hb'; clear hb'
      go_cut [102] from 13 (fun cv wx => cv = .bool b' ∧ wx = wc)
      case first =>
        by_cases h0 : leave < 1
        · have H0 := Lib.hid h0
          go_wp2
          all_goals go_meet
          all_goals exact ⟨by rw [← HBB.out]; simp [H0.out], rfl⟩
        · have H0 := Lib.hid h0
          by_cases h1 : 300 < leave
          · have H1 := Lib.hid h1
            go_wp2
            all_goals go_meet
            all_goals exact ⟨by rw [← HBB.out]; simp [H1.out], rfl⟩
          · have H1 := Lib.hid h1
            go_wp2
            all_goals go_meet
            all_goals exact ⟨by rw [← HBB.out]; simp [H0.out, H1.out], rfl⟩
      case rest =>
        obtain ⟨rfl, rfl⟩ := hcut
        clear c0 c1 c2 cl cr fl fr sz
        obtain ⟨c0, c1, c2, cl, cr, fl, fr, sz⟩ := HA5.out
        obtain ⟨L, hL⟩ : ∃ L : Nat, (L : Int) = if b' = true then 300 else leave := by
          cases b'
          · have := HBB.out; simp at this; exact ⟨leave.toNat, by rw [if_neg (by decide)]; omega⟩
          · exact ⟨300, rfl⟩
        have HLB : Hid (1 ≤ L ∧ L ≤ 300) := Lib.hid (by
          cases b'
          · have := HBB.out; simp at this; rw [if_neg (by decide)] at hL; omega
          · rw [if_pos rfl] at hL; omega)
        have HL := Lib.hid hL
        clear hL
        go_upto_if 102 with fail
        go_cut [] from 13 (fun wx => Below g w wx ∧ At g c f n L wx ∧ wx.heap[gb]? = some (.cells #[.int .i64 c, .int .i64 f, .int .i64 n] 23 (0, 0)) ∧ gb < wx.heap.size)
        case first =>
          cases b'
          · have hl := HL.out
            rw [if_neg (by decide)] at hl
            go_wp2_with fail
            all_goals go_meet
            all_goals exact ⟨HB5.out, by rw [hl]; exact HA5.out, HR5.out, HS5.out⟩
          · have hl := HL.out
            rw [if_pos rfl] at hl
            go_wp2_with fail
            all_goals go_meet
            all_goals exact ⟨HB5.out.setCell (p := ⟨g + 1, 0, none⟩) (by simp) _, by rw [hl]; exact at_leave HA5.out 300, (Below.heap_setCell _ _ _ _ (by have := HG4.out; simp; omega)).trans HR5.out, by simpa using HS5.out⟩
        case rest =>
          obtain ⟨hb6, ha6, hr6, hs6⟩ := hcut
          have HB6 := Lib.hid hb6; have HA6 := Lib.hid ha6; have HR6 := Lib.hid hr6; have HS6 := Lib.hid hs6
          clear hb6 ha6 hr6 hs6 c0 c1 c2 cl cr fl fr sz HB5 HA5 HR5 HS5 HBB HL
          obtain ⟨c0, c1, c2, cl, cr, fl, fr, sz⟩ := HA6.out
          go_wp2_with fail
          refine (wpIn_wide (n := 6)).1 (wpIn_loop_rounds 3 ?_)
          rw [roundsIn_succ]
          refine wpIn_wide.2 ?_
          go_wp2_with fail
          have HA7 := Lib.hid (HA6.out.below ((Below.refl wc.heap.size wc).alloc (Nat.le_refl _) (.cells #[.int .i64 0] 3)))
          have HB7 := Lib.hid (HB6.out.alloc (by have := HA6.out.sz; omega) (.cells #[.int .i64 0] 3))
          have HR7 := Lib.hid ((((Below.refl wc.heap.size wc).alloc (Nat.le_refl _) (.cells #[.int .i64 0] 3)).block gb HS6.out).trans HR6.out)
          have HK7 := Lib.hid (new_rowS wc (.cells #[.int .i64 0] 3))
          have HZ7 := Lib.hid (World.size_alloc wc (.cells #[.int .i64 0] 3))
          clear c0 c1 c2 cl cr fl fr sz HB6 HA6 HR6
          generalize wc.alloc (.cells #[.int .i64 0] 3) = W7 at *
          generalize wc.heap.size = gk at *
          refine (wpIn_wide (n := 6)).1 ?_
          refine join_post (fun D W => Sole gk W7 W ∧ W7.heap.size ≤ D ∧ W.heap[D]? = some (.deferred (some [])) ∧ ∃ v : Nat, W.cell? ⟨gk, 0, none⟩ = some (.int .i64 v) ∧ ((v : Int) = L ∨ (v : Int) = n)) ?range ?rest
          case range =>
            intro Q' hQ'
            refine wpIn_rangeFunc_ownF (n := 6) rfl (by decide) (gf := 29) (lb := #[.pointer (some ⟨gb, 0, none⟩)]) rfl trivial (enters_of Try.func29 (by kernel_rfl) rfl)
              (all_stops 5 (by decide) gb gk c f n bn n.toNat (by rw [HMY.out]; rfl) HS6.out W7 (by have := HZ7.out; omega) (by rw [cell_of_row _ _ 0 _ _ _ HR7.out]; rfl) (by rw [cell_of_row _ _ 1 _ _ _ HR7.out]; rfl) (by rw [cell_of_row _ _ 2 _ _ _ HR7.out]; rfl)) belowK_t (belowK_b (by have := HZ7.out; omega)) (Below.refl _ _) (fun _ => rfl)
              (fun pre W => Sole gk W7 W ∧ (W.cell? ⟨gk, 0, none⟩ = some (.int .i64 (pre.length : Int)) ∧ W.frozen? ⟨gk, 0, none⟩ = false ∧ pre.length < L))
              (fun cc pre W => (cc = .exit 4 ∧ Sole gk W7 W ∧ W.cell? ⟨gk, 0, none⟩ = some (.int .i64 (L : Int))) ∨ (cc = .ret ∧ ∀ k, pre ≠ Num.upto c f k))
              (OwnFrom.and (Sole.own (Nat.le_refl _)) (Own.from (fun s A B row hs hg hr => ⟨cell_kept hs.1 hg hr, (frozen_kept hs.1 hg hr).trans hs.2.1, hs.2.2⟩) _))
              (fun cc s A B row hs hg hr => by
                rcases hs with ⟨h1, h2, h3⟩ | h
                · exact .inl ⟨h1, Sole.own (Nat.le_refl _) s A B row h2 hg hr, cell_kept h3 hg (fun r e => (hr r e).2)⟩
                · exact .inr h)
              ⟨Sole.refl _ _, by rw [cell_of_row _ _ 0 _ _ _ HK7.out]; rfl, frozen_of_row _ _ 0 _ _ HK7.out, by have := HLB.out; simp; omega⟩ ?actN0 ?assign ?body ?done ?stop
            case assign =>
              intro l x W K hK
              gi_wp2
              exact hK
            case stop =>
              rintro D cc pre W hD ⟨k, hk1, hk2, rfl⟩ (⟨rfl, hO, hc⟩ | ⟨rfl, h⟩) hK
              · refine wpIn_wide.2 ?_
                refine wp_exit ?_
                exact hQ' D W ⟨hO, hD, hK, L, hc, .inl rfl⟩
              · exact absurd rfl (h k)
            case done =>
              rintro D ys W hD rfl ⟨hO, hc, _, _⟩ hK
              rw [Num.upto_length] at hc
              exact hQ' D W ⟨hO, hD, hK, n.toNat, hc, .inr (by have := HBS.out; omega)⟩
            case body =>
              clear hQ' Q'
              rintro l pre ⟨x1, x2⟩ W ⟨hO, hc, hf, hlt⟩ hlen
              have HA8 := Lib.hid (HA7.out.sole hO (by have := HG4.out; have := HS6.out; omega))
              have hgk := block_lt_of_cell hc
              simp only at hgk
              obtain ⟨k, hk⟩ : ∃ k : Nat, pre.length = k := ⟨_, rfl⟩
              rw [hk] at hc hlt hlen
              obtain ⟨b0, ⟨b1, b2⟩, b3, b4⟩ := HBS.out
              have HPK := Lib.hid hk
              have HPN := Lib.hid (pre_not c f pre x1 x2)
              have HMK := Lib.hid (fun W => rMake_any c (f + k) W)
              have hq : (Num.mayC c && Num.mayS (f + k)) = true := by rw [Bool.and_eq_true, Num.mayC_iff, Num.mayS_iff]; omega
              rw [hk] at HPN
              rw [hq] at HMK
              clear hq hk
              generalize Num.mkN c (f + (k : Int)) = y at *
              have HO8 := Lib.hid hO; clear hO
              obtain ⟨c0, c1, c2, cl, cr, fl, fr, sz⟩ := HA8.out
              have HHC := Lib.hid hc
              have HHF := Lib.hid hf
              clear hc hf
              have hc := HHC.out
              gi_wp2_with fail
              refine ⟨trivial, (CallsIn.inRound l (callsIn_wide.2 (HMK.out _))).mono ?_⟩
              rintro e w5 ⟨rfl, hb5⟩
              have HA9 := Lib.hid (HA8.out.below hb5)
              have HO9 := Lib.hid (HO8.out.trans (Sole.of_below hb5))
              have HC9 := Lib.hid ((hb5.cell (p := ⟨gk, 0, none⟩) hgk).trans HHC.out)
              have HF9 := Lib.hid ((hb5.frozen (p := ⟨gk, 0, none⟩) hgk).trans HHF.out)
              have HKO := Lib.hid (KeepsOthers.of_grownBy (grown_of_below hb5))
              have HBK := Lib.hid (hb5.mono (B' := gk) (by omega))
              clear c0 c1 c2 cl cr fl fr sz hb5 hc
              obtain ⟨c0, c1, c2, cl, cr, fl, fr, sz⟩ := HA9.out
              have hc := HC9.out
              have hf := HF9.out
              replace HKO := Lib.hid (HKO.out (fun _ _ e => by cases e))
              have hgg : g + 1 + 1 < gk := by have := HG4.out; have := HS6.out; omega
              by_cases h1 : x1 = k
              · subst h1
                by_cases h2 : x2 = y
                · subst h2
                  by_cases h3 : (x1 : Int) + 1 = L
                  · have H3 := Lib.hid h3
                    have hq : ((x1 : Int) + 1 == (L : Int)) = true := by simpa using h3
                    clear h3
                    gi_wp2
                    exact ⟨HKO.out.trans (KeepsOthers.setCell _ _ _), .inl ⟨rfl, HO9.out.setCell 0 _, by rw [← H3.out]; exact World.cell?_setCell_same' _ _ _ (by rw [HC9.out]; rfl)⟩⟩
                  · have H3 := Lib.hid h3
                    have hq : ((x1 : Int) + 1 == (L : Int)) = false := by simpa using h3
                    clear h3
                    gi_wp2
                    exact ⟨HKO.out.trans (KeepsOthers.setCell _ _ _), HBK.out.setCell (p := ⟨gk, 0, none⟩) (Nat.le_refl _) _, HO9.out.setCell 0 _, by rw [List.length_append, HPK.out]; exact World.cell?_setCell_same' _ _ _ (by rw [HC9.out]; rfl), by rw [World.frozen?_setCell]; exact HF9.out, by rw [List.length_append, HPK.out]; have := H3.out; simp; omega⟩
                · have HN := Lib.hid (HPN.out (.inr h2))
                  have hq : (x2 != y) = true := bne_iff_ne.2 h2
                  clear h2
                  gi_wp2
                  exact ⟨HKO.out.trans (KeepsOthers.setCell _ _ _), .inr ⟨rfl, HN.out⟩⟩
              · have HN := Lib.hid (HPN.out (.inl h1))
                have hq : ((x1 : Int) != (k : Int)) = true := bne_iff_ne.2 (by omega)
                clear h1
                gi_wp2
                exact ⟨HKO.out.trans (KeepsOthers.setCell _ _ _), .inr ⟨rfl, HN.out⟩⟩
          case rest =>
            rintro D0 wc ⟨hO, hD, hK, v, hv, hvv⟩
            have hgg : g + 3 ≤ gk := by have := HG4.out; have := HS6.out; omega
            have hzz : gk < W7.heap.size := by have := HZ7.out; omega
            have HA6 := Lib.hid (HA7.out.sole hO hgg)
            have HB6 := Lib.hid (Sole.below HB7.out (by omega) (by omega) hO)
            have HR6 := Lib.hid ((hO.2.2.2.2 gb (by have := HS6.out; omega) (by have := HS6.out; omega)).trans HR7.out)
            replace HS6 : Hid (gb < wc.heap.size) := Lib.hid (by have := HS6.out; have := hO.2.2.2.1; omega)
            have HK0_ := Lib.hid hK
            have HDg0 : Hid (g ≤ D0) := Lib.hid (by omega)
            have HDm0 : Hid (gk < D0) := Lib.hid (by omega)
            clear hO hK hD HA7 HB7 HR7 HZ7 HK7
            obtain ⟨c0, c1, c2, cl, cr, fl, fr, sz⟩ := HA6.out
            have HV : Hid ((v : Int) = L ∨ (¬ (v : Int) = L ∧ (v : Int) = n)) := Lib.hid (by omega)
            clear hvv
            go_upto_region 32 with fail
            go_cut [141] from 110 (fun cv wx => cv = .bool false ∧ wx = wc)
            case first =>
              rcases HV.out with hv1 | ⟨hv1, hv2⟩
              · have hq : ((v : Int) != (L : Int)) = false := by simpa using hv1
                clear hv1
                go_wp2
                all_goals go_meet
                all_goals exact ⟨rfl, rfl⟩
              · have hq : ((v : Int) != (L : Int)) = true := by simpa using hv1
                have hq2 : ((v : Int) != n) = false := by simpa using hv2
                clear hv1 hv2
                go_wp2
                all_goals go_meet
                all_goals exact ⟨rfl, rfl⟩
            case rest =>
              obtain ⟨rfl, rfl⟩ := hcut
              clear c0 c1 c2 cl cr fl fr sz hv HV
              obtain ⟨c0, c1, c2, cl, cr, fl, fr, sz⟩ := HA6.out
              go_wp2_with (first | (go_at_call 12; refine (known_any _).mono ?_; rintro e w' ⟨rfl, rfl⟩))
              rw [roundsIn_succ]
              refine wpIn_wide.2 ?_
              go_wp2_with (first | (go_at_call 12; refine (known_any _).mono ?_; rintro e w' ⟨rfl, rfl⟩))
              have HA7 := Lib.hid (HA6.out.below ((Below.refl wc.heap.size wc).alloc (Nat.le_refl _) (.cells #[.int .i64 0] 3)))
              have HB7 := Lib.hid (HB6.out.alloc (by have := HA6.out.sz; omega) (.cells #[.int .i64 0] 3))
              have HR7 := Lib.hid ((((Below.refl wc.heap.size wc).alloc (Nat.le_refl _) (.cells #[.int .i64 0] 3)).block gb HS6.out).trans HR6.out)
              have HK7 := Lib.hid (new_rowS wc (.cells #[.int .i64 0] 3))
              have HZ7 := Lib.hid (World.size_alloc wc (.cells #[.int .i64 0] 3))
              have HDl0 : Hid (D0 < wc.heap.size) := Lib.hid ((Array.getElem?_eq_some_iff.1 HK0_.out).1)
              replace HK0_ := Lib.hid ((((Below.refl wc.heap.size wc).alloc (Nat.le_refl _) (.cells #[.int .i64 0] 3)).block D0 HDl0.out).trans HK0_.out)
              clear c0 c1 c2 cl cr fl fr sz HB6 HA6 HR6
              generalize wc.alloc (.cells #[.int .i64 0] 3) = W7 at *
              generalize wc.heap.size = gk at *
              refine (wpIn_wide (n := 6)).1 ?_
              refine join_post (fun D W => Sole gk W7 W ∧ W7.heap.size ≤ D ∧ W.heap[D]? = some (.deferred (some [])) ∧ ∃ v : Nat, W.cell? ⟨gk, 0, none⟩ = some (.int .i64 v) ∧ ((v : Int) = L ∨ (v : Int) = n)) ?range ?rest
              case range =>
                intro Q' hQ'
                refine wpIn_rangeFunc_ownF (n := 6) rfl (by decide) (gf := 29) (lb := #[.pointer (some ⟨gb, 0, none⟩)]) rfl trivial (enters_of Try.func29 (by kernel_rfl) rfl)
                  (all_stops 5 (by decide) gb gk c f n bn n.toNat (by rw [HMY.out]; rfl) HS6.out W7 (by have := HZ7.out; omega) (by rw [cell_of_row _ _ 0 _ _ _ HR7.out]; rfl) (by rw [cell_of_row _ _ 1 _ _ _ HR7.out]; rfl) (by rw [cell_of_row _ _ 2 _ _ _ HR7.out]; rfl)) belowK_t (belowK_b (by have := HZ7.out; omega)) (Below.refl _ _) (fun _ => rfl)
                  (fun pre W => Sole gk W7 W ∧ (W.cell? ⟨gk, 0, none⟩ = some (.int .i64 (pre.length : Int)) ∧ W.frozen? ⟨gk, 0, none⟩ = false ∧ pre.length < L))
                  (fun cc pre W => (cc = .exit 4 ∧ Sole gk W7 W ∧ W.cell? ⟨gk, 0, none⟩ = some (.int .i64 (L : Int))) ∨ (cc = .ret ∧ ∀ k, pre ≠ Num.upto c f k))
                  (OwnFrom.and (Sole.own (Nat.le_refl _)) (Own.from (fun s A B row hs hg hr => ⟨cell_kept hs.1 hg hr, (frozen_kept hs.1 hg hr).trans hs.2.1, hs.2.2⟩) _))
                  (fun cc s A B row hs hg hr => by
                    rcases hs with ⟨h1, h2, h3⟩ | h
                    · exact .inl ⟨h1, Sole.own (Nat.le_refl _) s A B row h2 hg hr, cell_kept h3 hg (fun r e => (hr r e).2)⟩
                    · exact .inr h)
                  ⟨Sole.refl _ _, by rw [cell_of_row _ _ 0 _ _ _ HK7.out]; rfl, frozen_of_row _ _ 0 _ _ HK7.out, by have := HLB.out; simp; omega⟩ ?actN1 ?assign ?body ?done ?stop
                case assign =>
                  intro l x W K hK
                  gi_wp2
                  exact hK
                case stop =>
                  rintro D cc pre W hD ⟨k, hk1, hk2, rfl⟩ (⟨rfl, hO, hc⟩ | ⟨rfl, h⟩) hK
                  · refine wpIn_wide.2 ?_
                    refine wp_exit ?_
                    exact hQ' D W ⟨hO, hD, hK, L, hc, .inl rfl⟩
                  · exact absurd rfl (h k)
                case done =>
                  rintro D ys W hD rfl ⟨hO, hc, _, _⟩ hK
                  rw [Num.upto_length] at hc
                  exact hQ' D W ⟨hO, hD, hK, n.toNat, hc, .inr (by have := HBS.out; omega)⟩
                case body =>
                  clear hQ' Q'
                  rintro l pre ⟨x1, x2⟩ W ⟨hO, hc, hf, hlt⟩ hlen
                  have HA8 := Lib.hid (HA7.out.sole hO (by have := HG4.out; have := HS6.out; omega))
                  have hgk := block_lt_of_cell hc
                  simp only at hgk
                  obtain ⟨k, hk⟩ : ∃ k : Nat, pre.length = k := ⟨_, rfl⟩
                  rw [hk] at hc hlt hlen
                  obtain ⟨b0, ⟨b1, b2⟩, b3, b4⟩ := HBS.out
                  have HPK := Lib.hid hk
                  have HPN := Lib.hid (pre_not c f pre x1 x2)
                  have HMK := Lib.hid (fun W => rMake_any c (f + k) W)
                  have hq : (Num.mayC c && Num.mayS (f + k)) = true := by rw [Bool.and_eq_true, Num.mayC_iff, Num.mayS_iff]; omega
                  rw [hk] at HPN
                  rw [hq] at HMK
                  clear hq hk
                  generalize Num.mkN c (f + (k : Int)) = y at *
                  have HO8 := Lib.hid hO; clear hO
                  obtain ⟨c0, c1, c2, cl, cr, fl, fr, sz⟩ := HA8.out
                  have HHC := Lib.hid hc
                  have HHF := Lib.hid hf
                  clear hc hf
                  have hc := HHC.out
                  gi_wp2_with fail
                  refine ⟨trivial, (CallsIn.inRound l (callsIn_wide.2 (HMK.out _))).mono ?_⟩
                  rintro e w5 ⟨rfl, hb5⟩
                  have HA9 := Lib.hid (HA8.out.below hb5)
                  have HO9 := Lib.hid (HO8.out.trans (Sole.of_below hb5))
                  have HC9 := Lib.hid ((hb5.cell (p := ⟨gk, 0, none⟩) hgk).trans HHC.out)
                  have HF9 := Lib.hid ((hb5.frozen (p := ⟨gk, 0, none⟩) hgk).trans HHF.out)
                  have HKO := Lib.hid (KeepsOthers.of_grownBy (grown_of_below hb5))
                  have HBK := Lib.hid (hb5.mono (B' := gk) (by omega))
                  clear c0 c1 c2 cl cr fl fr sz hb5 hc
                  obtain ⟨c0, c1, c2, cl, cr, fl, fr, sz⟩ := HA9.out
                  have hc := HC9.out
                  have hf := HF9.out
                  replace HKO := Lib.hid (HKO.out (fun _ _ e => by cases e))
                  have hgg : g + 1 + 1 < gk := by have := HG4.out; have := HS6.out; omega
                  by_cases h1 : x1 = k
                  · subst h1
                    by_cases h2 : x2 = y
                    · subst h2
                      by_cases h3 : (x1 : Int) + 1 = L
                      · have H3 := Lib.hid h3
                        have hq : ((x1 : Int) + 1 == (L : Int)) = true := by simpa using h3
                        clear h3
                        gi_wp2
                        exact ⟨HKO.out.trans (KeepsOthers.setCell _ _ _), .inl ⟨rfl, HO9.out.setCell 0 _, by rw [← H3.out]; exact World.cell?_setCell_same' _ _ _ (by rw [HC9.out]; rfl)⟩⟩
                      · have H3 := Lib.hid h3
                        have hq : ((x1 : Int) + 1 == (L : Int)) = false := by simpa using h3
                        clear h3
                        gi_wp2
                        exact ⟨HKO.out.trans (KeepsOthers.setCell _ _ _), HBK.out.setCell (p := ⟨gk, 0, none⟩) (Nat.le_refl _) _, HO9.out.setCell 0 _, by rw [List.length_append, HPK.out]; exact World.cell?_setCell_same' _ _ _ (by rw [HC9.out]; rfl), by rw [World.frozen?_setCell]; exact HF9.out, by rw [List.length_append, HPK.out]; have := H3.out; simp; omega⟩
                    · have HN := Lib.hid (HPN.out (.inr h2))
                      have hq : (x2 != y) = true := bne_iff_ne.2 h2
                      clear h2
                      gi_wp2
                      exact ⟨HKO.out.trans (KeepsOthers.setCell _ _ _), .inr ⟨rfl, HN.out⟩⟩
                  · have HN := Lib.hid (HPN.out (.inl h1))
                    have hq : ((x1 : Int) != (k : Int)) = true := bne_iff_ne.2 (by omega)
                    clear h1
                    gi_wp2
                    exact ⟨HKO.out.trans (KeepsOthers.setCell _ _ _), .inr ⟨rfl, HN.out⟩⟩
              case rest =>
                rintro D1 wc ⟨hO, hD, hK, v, hv, hvv⟩
                have hgg : g + 3 ≤ gk := by have := HG4.out; have := HS6.out; omega
                have hzz : gk < W7.heap.size := by have := HZ7.out; omega
                have HA6 := Lib.hid (HA7.out.sole hO hgg)
                have HB6 := Lib.hid (Sole.below HB7.out (by omega) (by omega) hO)
                have HR6 := Lib.hid ((hO.2.2.2.2 gb (by have := HS6.out; omega) (by have := HS6.out; omega)).trans HR7.out)
                replace HS6 : Hid (gb < wc.heap.size) := Lib.hid (by have := HS6.out; have := hO.2.2.2.1; omega)
                have HK1_ := Lib.hid hK
                have HDg1 : Hid (g ≤ D1) := Lib.hid (by omega)
                have HDm1 : Hid (gk < D1) := Lib.hid (by omega)
                replace HK0_ := Lib.hid (((hO.2.2.2.2 D0 (by have := HDl0.out; omega) (by have := HDl0.out; omega))).trans HK0_.out)
                clear hO hK hD HA7 HB7 HR7 HZ7 HK7
                obtain ⟨c0, c1, c2, cl, cr, fl, fr, sz⟩ := HA6.out
                have HV : Hid ((v : Int) = L ∨ (¬ (v : Int) = L ∧ (v : Int) = n)) := Lib.hid (by omega)
                clear hvv
                go_upto_region 32 with fail
                go_cut [141] from 110 (fun cv wx => cv = .bool false ∧ wx = wc)
                case first =>
                  rcases HV.out with hv1 | ⟨hv1, hv2⟩
                  · have hq : ((v : Int) != (L : Int)) = false := by simpa using hv1
                    clear hv1
                    go_wp2
                    all_goals go_meet
                    all_goals exact ⟨rfl, rfl⟩
                  · have hq : ((v : Int) != (L : Int)) = true := by simpa using hv1
                    have hq2 : ((v : Int) != n) = false := by simpa using hv2
                    clear hv1 hv2
                    go_wp2
                    all_goals go_meet
                    all_goals exact ⟨rfl, rfl⟩
                case rest =>
                  obtain ⟨rfl, rfl⟩ := hcut
                  clear c0 c1 c2 cl cr fl fr sz hv HV
                  obtain ⟨c0, c1, c2, cl, cr, fl, fr, sz⟩ := HA6.out
                  go_wp2_with (first | (go_at_call 12; refine (known_any _).mono ?_; rintro e w' ⟨rfl, rfl⟩))
                  rw [roundsIn_succ]
                  refine wpIn_wide.2 ?_
                  go_wp2_with (first | (go_at_call 12; refine (known_any _).mono ?_; rintro e w' ⟨rfl, rfl⟩))
                  have hne : D0 ≠ D1 := by have := HDl0.out; have := HDm1.out; omega
                  have hK1 := (KeepsOthers.setCell wc ⟨g + 1 + 1, 0, none⟩ (.bool true)).same D1 _ HK1_.out rfl
                  have hK0 := (KeepsOthers.setCell wc ⟨g + 1 + 1, 0, none⟩ (.bool true)).same D0 _ HK0_.out rfl
                  have hK0' := (World.putObj_heap_other (o := .deferred none) hne).trans hK0
                  refine ⟨by simp, .inl ⟨_, _, rfl, run_takeDeferred hK1, ?_⟩⟩
                  refine ⟨by simp, .inl ⟨_, _, rfl, run_takeDeferred hK0', ?_⟩⟩
                  have hc4 := cell_kept (World.cell?_setCell_same' wc ⟨g + 1 + 1, 0, none⟩ (.bool true) (by rw [cr]; rfl)) (grownBy_putObj' _ D1 (.deferred none)) (fun r e => by cases e; exact ⟨_, hK1, rfl⟩)
                  have hc5 := cell_kept hc4 (grownBy_putObj' _ D0 (.deferred none)) (fun r e => by cases e; exact ⟨_, hK0', rfl⟩)
                  refine ⟨.bool true, ?_, rfl, ?_⟩
                  · simp [results, Try.f3, go_sem, hc5]
                  · have h1 := HB6.out.setCell (p := ⟨g + 1 + 1, 0, none⟩) (by simp; omega) (.bool true)
                    have h2 := belowK_b (w := w) (Nat.le_refl _) (wc.setCell ⟨g + 1 + 1, 0, none⟩ (.bool true)) D1 _ (.deferred none) (by have := HDg1.out; omega) hK1 rfl rfl
                    have h3 := belowK_b (w := w) (Nat.le_refl _) ((wc.setCell ⟨g + 1 + 1, 0, none⟩ (.bool true)).putObj D1 (.deferred none)) D0 _ (.deferred none) (by have := HDg0.out; omega) hK0' rfl rfl
                    rw [hg] at h2 h3 ⊢
                    exact (h1.trans h2).trans h3

theorem walk (c f n i m leave : Int) (wn : (Lit.int .i64 n).wf = true) (wi : (Lit.int .i64 i).wf = true) (wm : (Lit.int .u64 m).wf = true) (w : World) :
    Calls Try.prog 3 #[.agg #[.int .i64 c, .int .i64 f, .int .i64 n], .int .i64 i, .int .u64 m, .int .i64 leave] w fun e w' => e = .returned (.bool true) ∧ Below w.heap.size w w' := by
  cases hm : Num.mayStock c f n
  · exact walk_no c f n i m leave wn wi wm hm w
  · exact walk_yes c f n i m leave wn wi wm hm w

set_option maxRecDepth 100000 in
theorem lifted (os : Os) (started : os.Started) (H : Type) (enc : TypeId × Value → H) :
    ReturnsInHanded {} Try.checked os 3 .any (Rows.numberStocksSpec.pre6 enc Try.prog Try.f3 Rows.numberStocksRow.domain false) (Rows.numberStocksSpec.post enc Try.prog Try.f3 false true false false) := by
  refine returnsInHanded_of_change (C := Try.checked) own started (by kernel_rfl) Try.func3
    (ChangeSpec.witness6 (enc := enc) (C := Try.checked) false ⟨#[], #[.agg #[.int .i64 0, .int .i64 0, .int .i64 0], .int .i64 0, .int .u64 0, .int .i64 0], []⟩ 8 (by kernel_rfl) (by kernel_rfl) (by kernel_rfl) (by kernel_rfl)) ?_
  intro W base args ds gs before hval0 hW hcnd _
  have hval : ∀ (j : Nat) t v, Try.f3.params[j]? = some t → args[j]? = some v → Value.okWide Try.prog W .any base t v := hval0
  have hW' := hW
  obtain ⟨p, q, hA0, hV, rfl, hfz, hnd⟩ := hW
  have hA : DataW.TrodAll enc Try.prog W 0 (fun _ => true) true Try.f3.params.toList args.toList ds p := hA0
  rw [Try.params3] at hA hval
  obtain ⟨v0, vs0, d0, ds0, p0, q0, hargs, rfl, rfl, h0, r0⟩ := trodAll_cons hA
  obtain ⟨v1, vs1, d1, ds1, p1, q1, rfl, rfl, rfl, h1, r1⟩ := trodAll_cons r0
  obtain ⟨v2, vs2, d2, ds2, p2, q2, rfl, rfl, rfl, h2, r2⟩ := trodAll_cons r1
  obtain ⟨v3, vs3, d3, ds3, p3, q3, rfl, rfl, rfl, h3, r3⟩ := trodAll_cons r2
  obtain ⟨rfl, rfl, rfl⟩ := trodAll_nil r3
  obtain rfl : args = #[v0, v1, v2, v3] := by cases args; simp_all
  obtain ⟨c, f, n, rfl, wc, wf, wn⟩ := open_stock (hval 0 _ v0 rfl rfl) h0
  obtain ⟨i, rfl, rfl, rfl, wi⟩ := open_int Try.underlying3 (hval 1 3 v1 rfl rfl) h1
  obtain ⟨m, rfl, rfl, rfl, wm⟩ := open_int Try.underlying24 (hval 2 24 v2 rfl rfl) h2
  obtain ⟨leave, rfl, rfl, rfl, wl⟩ := open_int Try.underlying3 (hval 3 3 v3 rfl rfl) h3
  clear hA0 hval0
  refine (walk c f n i m leave wn wi wm W).mono fun e W' ⟨he, hg⟩ => ?_
  subst he
  exact ⟨_, rfl, post_law laidOut rfl hW' ⟨rfl, rfl, rfl⟩ (by kernel_rfl) hg Try.underlying4 rfl⟩

theorem proved : Rows.NumberStocksSaid :=
  OpenClaim.holds_of_wide 3 Try.f3 rfl rfl rfl rfl rfl rfl rfl ⟨rfl, rfl, rfl, rfl, rfl⟩ rfl rfl rfl rfl rfl (by kernel_rfl) Try.func3 (by kernel_rfl)
    (of_decide_eq_true (by kernel_rfl)) (by unfold Func.isWrapper; first | (rw [if_pos (by decide +kernel)]; kernel_rfl) | (rw [if_neg (by decide +kernel)]; exact ⟨rfl, rfl⟩))
    (fun os started H enc _ => lifted os started H enc)
#print axioms proved
end Go.Proofs.Ytajpggnmhkpbkaa.numberStocks
