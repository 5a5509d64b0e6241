/- Contracts: a request's coupons and taxes as parts of its run, weighed. -/
import Derived.Test.YtbmphlpmipkpcaaGreatRnm30

set_option linter.unusedVariables false
set_option linter.unusedSimpArgs false
namespace Go.Proofs.YtbmphlpmipkpcaaGreat
open Go.RowKit Go.Deep

theorem own_blockQ {w : World} {base e n m b : Nat} {v : Value} {xs : List Value} (h : w.ownsRow base e n v m xs) (hb : v.ownBlock = some b) : ∃ cs, w.heap[b]? = some (.cells cs e (0, 0)) := by
  obtain ⟨-, ⟨h1, h2⟩ | ⟨g, cap, cur, e1, hg, hh, -⟩⟩ := h
  · subst h1; cases hb
  · subst e1
    injection hb with hb
    subst hb
    exact ⟨cur, hh⟩
theorem own_nilQ (w : World) (base e n : Nat) : w.ownsRow base e n (.slice none 0 0) 0 [] := ⟨by simp, .inl ⟨rfl, rfl⟩⟩
/-- what a part that goes over a list leaves of other rows -/
theorem keep3 {w w' : World} {g gq b base e n m e' : Nat} {v : Value} {xs : List Value} {cs ds es : Array Value} {t1 t2 : TypeId} {fr fr' fr3 : Nat × Nat} (hx : w.heap[g]? = some (.cells cs t1 fr)) (hy : w.heap[gq]? = some (.cells ds t2 fr')) (h : w.ownsRow base e n v m xs) (ht : Turn (fun i => i = g ∨ i = gq ∨ v.ownBlock = some i) w w') (hb : w.heap[b]? = some (.cells es e' fr3)) (h1 : e' ≠ t1) (h2 : e' ≠ t2) (h3 : e' ≠ e) : w'.heap[b]? = w.heap[b]? :=
  ht.block b (block_lt hb) (by
    rintro (rfl | rfl | h4)
    · exact row_neT hb hx h1 rfl
    · exact row_neT hb hy h2 rfl
    · obtain ⟨cu, hc⟩ := own_blockQ h h4
      exact row_neT hb hc h3 rfl)
theorem own_keep3 {w w' : World} {g gq base e n m e' n' m' : Nat} {v v' : Value} {xs ys : List Value} {cs ds : Array Value} {t1 t2 : TypeId} {fr fr' : Nat × Nat} (hx : w.heap[g]? = some (.cells cs t1 fr)) (hy : w.heap[gq]? = some (.cells ds t2 fr')) (h : w.ownsRow base e n v m xs) (ht : Turn (fun i => i = g ∨ i = gq ∨ v.ownBlock = some i) w w') (k : w.ownsRow base e' n' v' m' ys) (h1 : e' ≠ t1) (h2 : e' ≠ t2) (h3 : e' ≠ e) : w'.ownsRow base e' n' v' m' ys :=
  recs_keep k fun b hb hl => by
    obtain ⟨cu, hc⟩ := own_blockQ k hb
    exact keep3 hx hy h ht hc h1 h2 h3
set_option maxHeartbeats 1000000 in
theorem wst_journey {w0 W : World} {g gq : Nat} {gd : Bool} {x : Rqt} (h : WSt w0 g gq gd x W) : Calls Tryz.prog 134 #[.pointer (some ⟨g, 0, none⟩)] W fun e w' => e = .returned (.tuple #[]) ∧ WSt w0 g gq (gd && Rq.partB 134 x) (Rq.partC 134 x) w' ∧ Rq.KF W w' := by
  obtain ⟨cv, tv, h1, h2, h3, h4⟩ := h.ex
  obtain ⟨q, cap, rfl⟩ := rec_formT h3
  have HC := Lib.hid (aw_coupons 12 #[.string x.key, .int .i64 x.k, .int .i64 x.d, .int .u64 x.tk, .int .i64 x.c, .int .i64 x.st, .string x.loc, .slice q x.cs.length cap, tv, .int .i64 x.am, .int .i64 x.fr, .int .i64 x.tt] g gq w0.heap.size gd x.cs q x.cs.length cap W h1 h2 h.ne rfl h3 h.wf.cs)
  refine Calls.mono (R := fun e w' => e = .returned (.tuple #[]) ∧ w'.heap[g]? = some (.cells #[.pointer none, .pointer none, .bool (gd && (inB 1 12 (x.cs.length : Int) && x.cs.all Rq.plainC)), .pointer (some ⟨gq, 0, none⟩)] 125 (0, 0)) ∧ w'.heap[gq]? = some (.cells #[.string x.key, .int .i64 x.k, .int .i64 x.d, .int .u64 x.tk, .int .i64 x.c, .int .i64 x.st, .string x.loc, .slice none 0 0, tv, .int .i64 x.am, .int .i64 x.fr, .int .i64 x.tt] 57 (0, 0)) ∧ Turn (fun i => i = g ∨ i = gq ∨ (Value.slice q x.cs.length cap).ownBlock = some i) W w') ?_ ?_
  · clear h h1 h2 h3 h4
    go_enter Tryz.func134, Tryz.ntmps134
    go_wp2_with fail
    refine HC.out.mono ?_
    rintro e w1 ⟨rfl, k1, k2, k3⟩
    have H1 := Lib.hid k1; have H2 := Lib.hid k2; have H3 := Lib.hid k3
    clear k1 k2 k3
    go_wp2
    first | go_end0 | refine bodyPost_ret (results_none rfl _ _ _) rfl ?_
    exact ⟨rfl, H1.out, H2.out, H3.out⟩
  · rintro e w' ⟨rfl, k1, k2, k3⟩
    refine ⟨rfl, ⟨⟨.slice none 0 0, tv, k1, k2, own_nilQ _ _ _ _, own_keep3 h1 h2 h3 k3 h4 (by decide) (by decide) (by decide)⟩, Turn.below h.b h.b.size k3 (by rintro i (rfl | rfl | hi); exact h.lo.1; exact h.lo.2; exact (recs_base h3 hi).1), h.ne, h.lo, Rq.partC_wf h.wf⟩, fun k es fs hk => ?_⟩
    exact (keep3 h1 h2 h3 k3 hk (by decide) (by decide) (by decide)).trans hk
set_option maxHeartbeats 1000000 in
theorem wst_anew {w0 W : World} {g gq : Nat} {gd : Bool} {x : Rqt} (h : WSt w0 g gq gd x W) : Calls Tryz.prog 140 #[.pointer (some ⟨g, 0, none⟩)] W fun e w' => e = .returned (.tuple #[]) ∧ WSt w0 g gq (gd && Rq.partB 140 x) (Rq.partC 140 x) w' ∧ Rq.KF W w' := by
  obtain ⟨cv, tv, h1, h2, h3, h4⟩ := h.ex
  obtain ⟨q, cap, rfl⟩ := rec_formT h3
  have HC := Lib.hid (aw_coupons 4 #[.string x.key, .int .i64 x.k, .int .i64 x.d, .int .u64 x.tk, .int .i64 x.c, .int .i64 x.st, .string x.loc, .slice q x.cs.length cap, tv, .int .i64 x.am, .int .i64 x.fr, .int .i64 x.tt] g gq w0.heap.size gd x.cs q x.cs.length cap W h1 h2 h.ne rfl h3 h.wf.cs)
  refine Calls.mono (R := fun e w' => e = .returned (.tuple #[]) ∧ w'.heap[g]? = some (.cells #[.pointer none, .pointer none, .bool (gd && (inB 1 4 (x.cs.length : Int) && x.cs.all Rq.plainC)), .pointer (some ⟨gq, 0, none⟩)] 125 (0, 0)) ∧ w'.heap[gq]? = some (.cells #[.string x.key, .int .i64 x.k, .int .i64 x.d, .int .u64 x.tk, .int .i64 x.c, .int .i64 x.st, .string x.loc, .slice none 0 0, tv, .int .i64 x.am, .int .i64 x.fr, .int .i64 x.tt] 57 (0, 0)) ∧ Turn (fun i => i = g ∨ i = gq ∨ (Value.slice q x.cs.length cap).ownBlock = some i) W w') ?_ ?_
  · clear h h1 h2 h3 h4
    go_enter Tryz.func140, Tryz.ntmps140
    go_wp2_with fail
    refine HC.out.mono ?_
    rintro e w1 ⟨rfl, k1, k2, k3⟩
    have H1 := Lib.hid k1; have H2 := Lib.hid k2; have H3 := Lib.hid k3
    clear k1 k2 k3
    go_wp2
    first | go_end0 | refine bodyPost_ret (results_none rfl _ _ _) rfl ?_
    exact ⟨rfl, H1.out, H2.out, H3.out⟩
  · rintro e w' ⟨rfl, k1, k2, k3⟩
    refine ⟨rfl, ⟨⟨.slice none 0 0, tv, k1, k2, own_nilQ _ _ _ _, own_keep3 h1 h2 h3 k3 h4 (by decide) (by decide) (by decide)⟩, Turn.below h.b h.b.size k3 (by rintro i (rfl | rfl | hi); exact h.lo.1; exact h.lo.2; exact (recs_base h3 hi).1), h.ne, h.lo, Rq.partC_wf h.wf⟩, fun k es fs hk => ?_⟩
    exact (keep3 h1 h2 h3 k3 hk (by decide) (by decide) (by decide)).trans hk
end Go.Proofs.YtbmphlpmipkpcaaGreat
