/- Contract: the reference's Join. -/
import Derived.Test.YtajpggnmhkpbkaaRjn47
import Derived.Test.YtajpggnmhkpbkaaRjn41
import Derived.Test.YtajpggnmhkpbkaaRjn48

set_option linter.unusedVariables false
set_option linter.unusedSimpArgs false
namespace Go.Proofs.Ytajpggnmhkpbkaa
open Go.RowKit
theorem own_onlyJ {w w' : World} {g : Nat} (k : Only g w w') {b e' n' m : Nat} {v : Value} {xs : List Value} (hg : g < b) (h : w.ownsRow b e' n' v m xs) : w'.ownsRow b e' n' v m xs := by
  obtain ⟨h1, h2 | ⟨q, cap, cur, rfl, hq, hh, h3⟩⟩ := h
  · exact ⟨h1, .inl h2⟩
  · exact ⟨h1, .inr ⟨q, cap, cur, rfl, hq, (k.block q (block_lt hh) (by omega)).trans hh, h3⟩⟩
theorem step_append_recsJ {α : Type} {enc : α → List Value} {n : Nat} {P : Program} {bytes sl e : Nat} (E : Elem P enc n bytes sl e) {yy : _} {o : Oper} {a : Act} {K : Act → World → Prop} {Q : Exit → Act → World → Prop} {F : Prop} {w : World} (hgd : o.guard = none) (s x : Operand)
    (ho : o.op = .call { callee := .builtin .append, args := #[s, x], argTypes := #[sl, sl] }) (base : Nat) (v : Value) (m : Nat) (d : List α) (hs : a.eval s = v) (hown : w.ownsRow base e n v m (encL enc d))
    (y : Value) (l : List α) (hx : a.eval x = y) (hb : LS enc n w y l) (hn : m + l.length ≤ 1073741824) (hbase : base ≤ w.heap.size)
    (h : ∀ v' w', w'.ownsRow base e n v' (m + l.length) (encL enc (d ++ l)) → w.grownBy w' v.ownBlock → K (a.put o.dst v') w') :
    if Region.wanted o yy = true then Oper.wp P o a w K Q else F := by
  have hw : Region.wanted o yy = true := by simp [Region.wanted, hgd]
  rw [if_pos hw]
  obtain ⟨v', w', hr, g1, g2, _, g4⟩ := run_append_recs E w base o.type v m d hown y l hb hn hbase
  exact Lib.wp_append_run w s x _ _ ho v _ hs hx v' w' hr (h v' w' g1 g2)
theorem grown_below {w w' : World} {B e n m : Nat} {v : Value} {xs : List Value} (h : w.grownBy w' v.ownBlock) (ho : w.ownsRow B e n v m xs) (hB : B ≤ w.heap.size) : Below B w w' := by
  refine ⟨h.os, h.tape, h.output, h.size, fun k hk => ?_⟩
  by_cases hlt : k < w.heap.size
  · refine h.block k hlt fun e1 => ?_
    obtain ⟨_, ⟨rfl, _⟩ | ⟨q, cap, cur, rfl, hq, _⟩⟩ := ho
    · cases e1
    · injection e1 with e1
      have : k = q := e1
      omega
  · omega
theorem rec_formJ {w : World} {base e n m : Nat} {v : Value} {xs : List Value} (h : w.ownsRow base e n v m xs) : ∃ q c, v = .slice q m c := by
  rcases h.2 with ⟨rfl, h0⟩ | ⟨g, cap, cur, rfl, _⟩
  · exact ⟨none, 0, by rw [h0]⟩
  · exact ⟨_, cap, rfl⟩
theorem Mine.lower {α : Type} {enc : α → List Value} {n : Nat} {w : World} {base base' : Nat} {v : Value} {l : List α} (h : Mine enc n w base v l) (hb : base' ≤ base) : Mine enc n w base' v l := by
  rcases h with ⟨rfl, rfl⟩ | ⟨k, cap, rfl, h1, h2⟩
  · exact .inl ⟨rfl, rfl⟩
  · exact .inr ⟨k, cap, rfl, Nat.le_trans hb h1, h2⟩
theorem Only.after_below {g : Nat} {w w' w'' : World} (h : Only g w w') (hb : Below w.heap.size w' w'') (hg : g < w.heap.size) : Only g w w'' :=
  ⟨hb.os.trans h.os, hb.tape.trans h.tape, hb.output.trans h.output, Nat.le_trans h.size hb.size, fun k hk hne => (hb.block k hk).trans (h.block k hk hne)⟩
attribute [local go_sem ↓] rp_execLoad rp_execStore

attribute [local go_sem] rp_load rp_store loL_drew okL_drew there_sc

set_option maxRecDepth 8000 in
set_option maxHeartbeats 8000000 in
theorem rjoin_go (a b : Int) (la : List Pst) (pa : Option Addr) (na ca : Nat) (m x0 x1 x2 x3 x4 x5 : Int) (a' b' : Int) (lb : List Pst) (pb : Option Addr) (nb cb : Nat) (m' y0 y1 y2 y3 y4 y5 : Int) (hba : Rep.MayP a b la m [x0, x1, x2, x3, x4, x5]) (hbb : Rep.MayP a' b' lb m' [y0, y1, y2, y3, y4, y5]) (hab : a' = b + 1) (hna : na ≤ 400000) (hnb : nb ≤ 400000)
    (CC : Value → List Value) (hC1 : ∀ v, (CC v).length = 10) (hC2 : ∀ p n c, (CC (.slice p n c)).all (·.oneCell') = true) (EE : Int) (rows : List Pst)
    (hmk : ∀ (W : World) p n c, PS W (.slice p n c) (la ++ lb) → Calls Try.prog 52 #[.int .i64 a, .int .i64 b', .slice p n c] W fun e w' => ∃ (q : Option Addr) (k c : Nat), e = .returned (.tuple #[.agg (CC (.slice q k c)).toArray, .int .i64 EE]) ∧ Mine Pst.cells 10 w' W.heap.size (.slice q k c) rows ∧ Below W.heap.size W w')
    (w : World) (hsa : PS w (.slice pa na ca) la) (hsb : PS w (.slice pb nb cb) lb) :
    Calls Try.prog 20 #[.agg #[.int .i64 a, .int .i64 b, .slice pa na ca, .int .i64 m, .int .i64 x0, .int .i64 x1, .int .i64 x2, .int .i64 x3, .int .i64 x4, .int .i64 x5], .agg #[.int .i64 a', .int .i64 b', .slice pb nb cb, .int .i64 m', .int .i64 y0, .int .i64 y1, .int .i64 y2, .int .i64 y3, .int .i64 y4, .int .i64 y5]] w fun e w' => ∃ (q : Option Addr) (k c : Nat), e = .returned (.tuple #[.agg (CC (.slice q k c)).toArray, .int .i64 EE]) ∧ Mine Pst.cells 10 w' w.heap.size (.slice q k c) rows ∧ Below w.heap.size w w' := by
  have HMA := Lib.hid (fun W h => rMay17_any a b la pa na ca (by omega) m x0 x1 x2 x3 x4 x5 true (by simp; exact hba) W h)
  have HMB := Lib.hid (fun W h => rMay17_any a' b' lb pb nb cb (by omega) m' y0 y1 y2 y3 y4 y5 true (by simp; exact hbb) W h)
  have HSA := Lib.hid hsa; have HSB := Lib.hid hsb; have HSA0 := Lib.hid hsa; have HSB0 := Lib.hid hsb; have HMK := Lib.hid hmk; have HC1 := Lib.hid hC1; have HC2 := Lib.hid hC2
  have HLA := Lib.hid (ps_len hsa).1; have HLB := Lib.hid (ps_len hsb).1
  have HWL : Hid (WF (la ++ lb)) := Lib.hid (fun z hz => by rcases List.mem_append.1 hz with h | h; exact ps_wf hsa z h; exact ps_wf hsb z h)
  have HDW := Lib.hid (show wrap64 (b + 1) = b + 1 by have := hba.1; unfold Rep.days at this; simp at this; unfold wrap64; omega)
  have HAB := Lib.hid hab
  clear hsa hsb hmk hC1 hC2 hba hbb hab
  have hb1 := (((Below.refl w.heap.size w).alloc (Nat.le_refl _) (.cells #[.int .i64 a, .int .i64 b, .slice pa na ca, .int .i64 m, .int .i64 x0, .int .i64 x1, .int .i64 x2, .int .i64 x3, .int .i64 x4, .int .i64 x5] 43 (0, 0))).alloc (by simp) (.cells #[.int .i64 a', .int .i64 b', .slice pb nb cb, .int .i64 m', .int .i64 y0, .int .i64 y1, .int .i64 y2, .int .i64 y3, .int .i64 y4, .int .i64 y5] 43 (0, 0))).alloc (by simp; omega) (.cells #[.int .i64 0, .int .i64 0, .slice none 0 0, .int .i64 0, .int .i64 0, .int .i64 0, .int .i64 0, .int .i64 0, .int .i64 0, .int .i64 0] 43 (0, 0))
  have hr0 := row_alloc (row_alloc (new_row w (.cells #[.int .i64 a, .int .i64 b, .slice pa na ca, .int .i64 m, .int .i64 x0, .int .i64 x1, .int .i64 x2, .int .i64 x3, .int .i64 x4, .int .i64 x5] 43 (0, 0)) _ rfl) (.cells #[.int .i64 a', .int .i64 b', .slice pb nb cb, .int .i64 m', .int .i64 y0, .int .i64 y1, .int .i64 y2, .int .i64 y3, .int .i64 y4, .int .i64 y5] 43 (0, 0))) (.cells #[.int .i64 0, .int .i64 0, .slice none 0 0, .int .i64 0, .int .i64 0, .int .i64 0, .int .i64 0, .int .i64 0, .int .i64 0, .int .i64 0] 43 (0, 0))
  have hr1 := row_alloc (new_row (w.alloc (.cells #[.int .i64 a, .int .i64 b, .slice pa na ca, .int .i64 m, .int .i64 x0, .int .i64 x1, .int .i64 x2, .int .i64 x3, .int .i64 x4, .int .i64 x5] 43 (0, 0))) (.cells #[.int .i64 a', .int .i64 b', .slice pb nb cb, .int .i64 m', .int .i64 y0, .int .i64 y1, .int .i64 y2, .int .i64 y3, .int .i64 y4, .int .i64 y5] 43 (0, 0)) (w.heap.size + 1) (by simp)) (.cells #[.int .i64 0, .int .i64 0, .slice none 0 0, .int .i64 0, .int .i64 0, .int .i64 0, .int .i64 0, .int .i64 0, .int .i64 0, .int .i64 0] 43 (0, 0))
  have hr4 := new_row ((w.alloc (.cells #[.int .i64 a, .int .i64 b, .slice pa na ca, .int .i64 m, .int .i64 x0, .int .i64 x1, .int .i64 x2, .int .i64 x3, .int .i64 x4, .int .i64 x5] 43 (0, 0))).alloc (.cells #[.int .i64 a', .int .i64 b', .slice pb nb cb, .int .i64 m', .int .i64 y0, .int .i64 y1, .int .i64 y2, .int .i64 y3, .int .i64 y4, .int .i64 y5] 43 (0, 0))) (.cells #[.int .i64 0, .int .i64 0, .slice none 0 0, .int .i64 0, .int .i64 0, .int .i64 0, .int .i64 0, .int .i64 0, .int .i64 0, .int .i64 0] 43 (0, 0)) (w.heap.size + 1 + 1) (by simp)
  obtain ⟨f1, f2⟩ := row_loJ (cs := [.int .i64 a, .int .i64 b, .slice pa na ca, .int .i64 m, .int .i64 x0, .int .i64 x1, .int .i64 x2, .int .i64 x3, .int .i64 x4, .int .i64 x5]) hr0 rfl
  go_enter Try.func20, Try.ntmps20
  go_wp2_with fail
  generalize ((w.alloc (.cells #[.int .i64 a, .int .i64 b, .slice pa na ca, .int .i64 m, .int .i64 x0, .int .i64 x1, .int .i64 x2, .int .i64 x3, .int .i64 x4, .int .i64 x5] 43 (0, 0))).alloc (.cells #[.int .i64 a', .int .i64 b', .slice pb nb cb, .int .i64 m', .int .i64 y0, .int .i64 y1, .int .i64 y2, .int .i64 y3, .int .i64 y4, .int .i64 y5] 43 (0, 0))).alloc (.cells #[.int .i64 0, .int .i64 0, .slice none 0 0, .int .i64 0, .int .i64 0, .int .i64 0, .int .i64 0, .int .i64 0, .int .i64 0, .int .i64 0] 43 (0, 0)) = W0 at *
  refine (HMA.out _ (HSA.out.below hb1)).mono ?_
  rintro e w1 ⟨rfl, hbq⟩
  have HB1 := Lib.hid (hb1.trans (hbq.mono hb1.size))
  have HR0 := Lib.hid ((hbq.block w.heap.size (block_lt hr0)).trans hr0)
  have HR1 := Lib.hid ((hbq.block (w.heap.size + 1) (block_lt hr1)).trans hr1)
  have HR4 := Lib.hid ((hbq.block (w.heap.size + 1 + 1) (block_lt hr4)).trans hr4)
  have HSA := Lib.hid ((HSA.out.below hb1).below hbq); have HSB := Lib.hid ((HSB.out.below hb1).below hbq)
  clear hb1 hbq hr0 hr1 hr4 f1 f2 HMA
  obtain ⟨f1, f2⟩ := row_loJ (cs := [.int .i64 a', .int .i64 b', .slice pb nb cb, .int .i64 m', .int .i64 y0, .int .i64 y1, .int .i64 y2, .int .i64 y3, .int .i64 y4, .int .i64 y5]) HR1.out rfl
  go_wp2_with fail
  refine (HMB.out _ HSB.out).mono ?_
  rintro e w2 ⟨rfl, hbq⟩
  have HB2 := Lib.hid (HB1.out.trans (hbq.mono HB1.out.size))
  have HR0 := Lib.hid ((hbq.block w.heap.size (block_lt HR0.out)).trans HR0.out)
  have HR1 := Lib.hid ((hbq.block (w.heap.size + 1) (block_lt HR1.out)).trans HR1.out)
  have HR4 := Lib.hid ((hbq.block (w.heap.size + 1 + 1) (block_lt HR4.out)).trans HR4.out)
  have HSA := Lib.hid (HSA.out.below hbq); have HSB := Lib.hid (HSB.out.below hbq)
  clear hbq f1 f2 HMB HB1
  have kc0 := fun j => cell_of_row w2 w.heap.size j _ _ _ HR0.out
  have kc1 := fun j => cell_of_row w2 (w.heap.size + 1) j _ _ _ HR1.out
  have hab' : a' = wrap64 (b + 1) := by rw [HDW.out]; exact HAB.out
  have HSZ := Lib.hid (show w.heap.size + 1 + 1 < w2.heap.size from block_lt HR4.out)
  go_upto_region 3 with fail
  clear kc0 kc1 hab'
  refine wp_region_dies 6 9 (fun k => decide (10 ≤ k)) (T := fun A B => Only (w.heap.size + 1 + 1) A B ∧ ((∃ (q : Option Addr) (k c : Nat), A.heap[w.heap.size + 1 + 1]? = some (.cells (CC (.slice q k c)).toArray 43 (0, 0)) ∧ Mine Pst.cells 10 A w2.heap.size (.slice q k c) rows) → ∃ (q : Option Addr) (k c : Nat), B.heap[w.heap.size + 1 + 1]? = some (.cells (CC (.slice q k c)).toArray 43 (0, 0)) ∧ Mine Pst.cells 10 B w2.heap.size (.slice q k c) rows)) (T2 := fun A B => Below w2.heap.size A B) (G := fun W => Only (w.heap.size + 1 + 1) w2 W ∧ ∃ cs : Array Value, cs.size = 10 ∧ W.heap[w.heap.size + 1 + 1]? = some (.cells cs 43 (0, 0))) (R := fun k => match k with | 0 => fun v _ => v = .pointer (some ⟨w.heap.size, 0, none⟩) | 1 => fun v _ => v = .int .i64 a | 2 => fun v _ => v = .pointer (some ⟨w.heap.size + 1, 1, none⟩) | 3 => fun v _ => v = .int .i64 b' | 4 => fun v _ => v = .pointer (some ⟨w.heap.size, 2, none⟩) | 5 => fun v _ => v = .slice pa na ca | 6 => fun v W => W.ownsRow w2.heap.size 68 10 v na (encL Pst.cells la) | 7 => fun v _ => v = .pointer (some ⟨w.heap.size + 1, 2, none⟩) | 8 => fun v _ => v = .slice pb nb cb | 9 => fun v W => W.ownsRow w2.heap.size 68 10 v (na + nb) (encL Pst.cells (la ++ lb)) | 10 => fun v W => ∃ (q : Option Addr) (k c : Nat), v = .tuple #[.agg (CC (.slice q k c)).toArray, .int .i64 EE] ∧ Mine Pst.cells 10 W w2.heap.size (.slice q k c) rows | 11 => fun v W => ∃ (q : Option Addr) (k c : Nat), v = .agg (CC (.slice q k c)).toArray ∧ Mine Pst.cells 10 W w2.heap.size (.slice q k c) rows | 12 => fun v _ => v = .int .i64 EE | 13 => fun _ W => ∃ (q : Option Addr) (k c : Nat), W.heap[w.heap.size + 1 + 1]? = some (.cells (CC (.slice q k c)).toArray 43 (0, 0)) ∧ Mine Pst.cells 10 W w2.heap.size (.slice q k c) rows | 14 => fun v _ => v = .int .i64 EE | _ => fun _ _ => True) (by kernel_rfl) (by kernel_rfl) (by kernel_rfl) (by kernel_rfl) ?iT ?iU (⟨(Only.refl _ _).drew, _, rfl, HR4.out⟩) ?iS ?iD (by decide)
  case iT =>
    intro k v A B hT h
    match k, h with
    | 0, h => exact h
    | 1, h => exact h
    | 2, h => exact h
    | 3, h => exact h
    | 4, h => exact h
    | 5, h => exact h
    | 6, h => exact own_onlyJ hT.1 HSZ.out h
    | 7, h => exact h
    | 8, h => exact h
    | 9, h => exact own_onlyJ hT.1 HSZ.out h
    | 10, h => exact (by obtain ⟨q, k, c, e, hm⟩ := h; exact ⟨q, k, c, e, hm.only HSZ.out hT.1⟩)
    | 11, h => exact (by obtain ⟨q, k, c, e, hm⟩ := h; exact ⟨q, k, c, e, hm.only HSZ.out hT.1⟩)
    | 12, h => exact h
    | 13, h => exact hT.2 h
    | 14, h => exact h
    | _ + 15, h => exact trivial
  case iU =>
    intro k v A B hd hs hl hT h
    match k, hd, hs, hl, h with
    | 0, _, _, _, h => exact h
    | 1, _, _, _, h => exact h
    | 2, _, _, _, h => exact h
    | 3, _, _, _, h => exact h
    | 4, _, _, _, h => exact h
    | 5, _, _, _, h => exact h
    | 6, hd, _, _, _ => exact absurd rfl hd
    | 7, _, _, _, h => exact h
    | 8, _, _, _, h => exact h
    | 9, _, hs, _, _ => exact absurd rfl hs
    | 10, _, _, hl, _ => exact absurd hl (by decide)
    | 11, _, _, hl, _ => exact absurd hl (by decide)
    | 12, _, _, hl, _ => exact absurd hl (by decide)
    | 13, _, _, hl, _ => exact absurd hl (by decide)
    | 14, _, _, hl, _ => exact absurd hl (by decide)
    | _ + 15, _, _, _, h => exact trivial
  case iS =>
    refine ⟨?s0, ?s1, ?s2, ?s3, ?s4, ?s5, ?s6, ?s7, ?s8, ?s9, ?s10, ?s11, ?s12, ?s13, ?s14, trivial⟩
    case s0 =>
      intro f W hG hW K hK
      try dsimp only at hG
      simp only [putF, Act.put, List.setIfInBounds_toArray, List.set_cons_zero, List.set_cons_succ, Nat.reduceAdd, Nat.zero_add] at hK ⊢
      clear hW
      go_simp
      refine hK.out _ _ (fun _ => ⟨Only.refl _ _, id⟩) (fun h => absurd h (by decide)) hG ?_
      first | exact trivial | with_reducible rfl | rfl
    case s1 =>
      intro f W hG hW K hK
      try dsimp only at hG
      have e0 := hW 0 (by kernel_rfl) (by decide)
      change f 0 = .pointer (some ⟨w.heap.size, 0, none⟩) at e0
      simp only [putF, Act.put, List.setIfInBounds_toArray, List.set_cons_zero, List.set_cons_succ, Nat.reduceAdd, Nat.zero_add] at hK ⊢
      (try rw [e0])
      (try rw [e0] at hK)
      obtain ⟨hO, cs4, hc4, h4⟩ := hG
      have hrw := (hO.block w.heap.size (block_lt HR0.out) (by omega)).trans HR0.out
      have kc := fun j => cell_of_row W (w.heap.size) j _ _ _ hrw
      clear hW
      go_simp
      refine hK.out _ _ (fun _ => ⟨Only.refl _ _, id⟩) (fun h => absurd h (by decide)) ⟨hO, cs4, hc4, h4⟩ ?_
      first | with_reducible rfl | rfl
    case s2 =>
      intro f W hG hW K hK
      try dsimp only at hG
      simp only [putF, Act.put, List.setIfInBounds_toArray, List.set_cons_zero, List.set_cons_succ, Nat.reduceAdd, Nat.zero_add] at hK ⊢
      clear hW
      go_simp
      refine hK.out _ _ (fun _ => ⟨Only.refl _ _, id⟩) (fun h => absurd h (by decide)) hG ?_
      first | exact trivial | with_reducible rfl | rfl
    case s3 =>
      intro f W hG hW K hK
      try dsimp only at hG
      have e2 := hW 2 (by kernel_rfl) (by decide)
      change f 2 = .pointer (some ⟨w.heap.size + 1, 1, none⟩) at e2
      simp only [putF, Act.put, List.setIfInBounds_toArray, List.set_cons_zero, List.set_cons_succ, Nat.reduceAdd, Nat.zero_add] at hK ⊢
      (try rw [e2])
      (try rw [e2] at hK)
      obtain ⟨hO, cs4, hc4, h4⟩ := hG
      have hrw := (hO.block (w.heap.size + 1) (block_lt HR1.out) (by omega)).trans HR1.out
      have kc := fun j => cell_of_row W ((w.heap.size + 1)) j _ _ _ hrw
      clear hW
      go_simp
      refine hK.out _ _ (fun _ => ⟨Only.refl _ _, id⟩) (fun h => absurd h (by decide)) ⟨hO, cs4, hc4, h4⟩ ?_
      first | with_reducible rfl | rfl
    case s4 =>
      intro f W hG hW K hK
      try dsimp only at hG
      simp only [putF, Act.put, List.setIfInBounds_toArray, List.set_cons_zero, List.set_cons_succ, Nat.reduceAdd, Nat.zero_add] at hK ⊢
      clear hW
      go_simp
      refine hK.out _ _ (fun _ => ⟨Only.refl _ _, id⟩) (fun h => absurd h (by decide)) hG ?_
      first | exact trivial | with_reducible rfl | rfl
    case s5 =>
      intro f W hG hW K hK
      try dsimp only at hG
      have e4 := hW 4 (by kernel_rfl) (by decide)
      change f 4 = .pointer (some ⟨w.heap.size, 2, none⟩) at e4
      simp only [putF, Act.put, List.setIfInBounds_toArray, List.set_cons_zero, List.set_cons_succ, Nat.reduceAdd, Nat.zero_add] at hK ⊢
      (try rw [e4])
      (try rw [e4] at hK)
      obtain ⟨hO, cs4, hc4, h4⟩ := hG
      have hrw := (hO.block w.heap.size (block_lt HR0.out) (by omega)).trans HR0.out
      have kc := fun j => cell_of_row W (w.heap.size) j _ _ _ hrw
      clear hW
      go_simp
      refine hK.out _ _ (fun _ => ⟨Only.refl _ _, id⟩) (fun h => absurd h (by decide)) ⟨hO, cs4, hc4, h4⟩ ?_
      first | with_reducible rfl | rfl
    case s6 =>
      intro f W hG hW K hK
      try dsimp only at hG
      have e5 := hW 5 (by kernel_rfl) (by decide)
      change f 5 = .slice pa na ca at e5
      simp only [putF, Act.put, List.setIfInBounds_toArray, List.set_cons_zero, List.set_cons_succ, Nat.reduceAdd, Nat.zero_add] at hK ⊢
      (try rw [e5])
      (try rw [e5] at hK)
      obtain ⟨hO, cs4, hc4, h4⟩ := hG
      have hls := (ls_of_ps HSA0.out).1.below (Only.below HB2.out (by omega) HB2.out.size hO)
      clear hW
      refine step_append_recsJ elemP rfl _ _ rfl w2.heap.size (.slice none 0 0) 0 [] (by rfl) (World.ownsRow_nil _ _ _ _) (.slice pa na ca) la (by rfl) hls (by have := HLA.out; omega) hO.size ?_
      intro v' w' g1 g2
      have hb := grown_below (B := W.heap.size) g2 (World.ownsRow_nil _ _ 68 10) (Nat.le_refl _)
      rw [← HLA.out, Nat.zero_add, List.nil_append] at g1
      refine hK.out v' w' (fun _ => ⟨Only.of_below hb, fun ⟨q, k, c, h1, h2⟩ => ⟨q, k, c, (hb.block _ (block_lt h1)).trans h1, h2.below hb⟩⟩) (fun h => absurd h (by decide)) ⟨hO.trans (Only.of_below hb), cs4, hc4, (hb.block _ (block_lt h4)).trans h4⟩ g1
    case s7 =>
      intro f W hG hW K hK
      try dsimp only at hG
      simp only [putF, Act.put, List.setIfInBounds_toArray, List.set_cons_zero, List.set_cons_succ, Nat.reduceAdd, Nat.zero_add] at hK ⊢
      clear hW
      go_simp
      refine hK.out _ _ (fun _ => ⟨Only.refl _ _, id⟩) (fun h => absurd h (by decide)) hG ?_
      first | exact trivial | with_reducible rfl | rfl
    case s8 =>
      intro f W hG hW K hK
      try dsimp only at hG
      have e7 := hW 7 (by kernel_rfl) (by decide)
      change f 7 = .pointer (some ⟨w.heap.size + 1, 2, none⟩) at e7
      simp only [putF, Act.put, List.setIfInBounds_toArray, List.set_cons_zero, List.set_cons_succ, Nat.reduceAdd, Nat.zero_add] at hK ⊢
      (try rw [e7])
      (try rw [e7] at hK)
      obtain ⟨hO, cs4, hc4, h4⟩ := hG
      have hrw := (hO.block (w.heap.size + 1) (block_lt HR1.out) (by omega)).trans HR1.out
      have kc := fun j => cell_of_row W ((w.heap.size + 1)) j _ _ _ hrw
      clear hW
      go_simp
      refine hK.out _ _ (fun _ => ⟨Only.refl _ _, id⟩) (fun h => absurd h (by decide)) ⟨hO, cs4, hc4, h4⟩ ?_
      first | with_reducible rfl | rfl
    case s9 =>
      intro f W hG hW K hK
      try dsimp only at hG
      have e6 := hW 6 (by kernel_rfl) (by decide)
      try dsimp only at e6
      have e8 := hW 8 (by kernel_rfl) (by decide)
      change f 8 = .slice pb nb cb at e8
      simp only [putF, Act.put, List.setIfInBounds_toArray, List.set_cons_zero, List.set_cons_succ, Nat.reduceAdd, Nat.zero_add] at hK ⊢
      (try rw [e8])
      (try rw [e8] at hK)
      obtain ⟨hO, cs4, hc4, h4⟩ := hG
      have hls := (ls_of_ps HSB0.out).1.below (Only.below HB2.out (by omega) HB2.out.size hO)
      obtain ⟨q, c, hq⟩ : ∃ q c, f 6 = .slice q na c := rec_formJ e6
      clear hW
      refine step_append_recsJ elemP rfl _ _ rfl w2.heap.size (f 6) na la (by rfl) e6 (.slice pb nb cb) lb (by rfl) hls (by have := HLB.out; omega) hO.size ?_
      intro v' w' g1 g2
      have hb := grown_below g2 e6 hO.size
      rw [← HLB.out] at g1
      refine hK.out v' w' (fun h => absurd rfl h) (fun _ => hb) ⟨hO.after_below hb HSZ.out, cs4, hc4, (hb.block _ HSZ.out).trans h4⟩ g1
    case s10 =>
      intro f W hG hW K hK
      try dsimp only at hG
      have e1 := hW 1 (by kernel_rfl) (by decide)
      change f 1 = .int .i64 a at e1
      have e3 := hW 3 (by kernel_rfl) (by decide)
      change f 3 = .int .i64 b' at e3
      have e9 := hW 9 (by kernel_rfl) (by decide)
      try dsimp only at e9
      simp only [putF, Act.put, List.setIfInBounds_toArray, List.set_cons_zero, List.set_cons_succ, Nat.reduceAdd, Nat.zero_add] at hK ⊢
      (try rw [e1])
      (try rw [e1] at hK)
      (try rw [e3])
      (try rw [e3] at hK)
      obtain ⟨hO, cs4, hc4, h4⟩ := hG
      obtain ⟨p6, c6, h6⟩ := (LS.of_own e9 Pst.cells_length (by decide)).shape
      rw [List.length_append] at h6
      have hps := ps_of_ls (LS.of_own e9 Pst.cells_length (by decide)) HWL.out
      rw [h6] at hps
      simp only [h6] at hK ⊢
      clear hW
      go_simp
      refine (HMK.out W p6 _ c6 hps).mono ?_
      rintro e w' ⟨q, k, c, rfl, hmi, hb⟩
      exact hK.out _ w' (fun _ => ⟨Only.of_below hb, fun ⟨q, k, c, h1, h2⟩ => ⟨q, k, c, (hb.block _ (block_lt h1)).trans h1, h2.below hb⟩⟩) (fun h => absurd h (by decide)) ⟨hO.trans (Only.of_below hb), cs4, hc4, (hb.block _ (block_lt h4)).trans h4⟩ ⟨q, k, c, rfl, hmi.lower hO.size⟩
    case s11 =>
      intro f W hG hW K hK
      try dsimp only at hG
      have e10 := hW 10 (by kernel_rfl) (by decide)
      try dsimp only at e10
      simp only [putF, Act.put, List.setIfInBounds_toArray, List.set_cons_zero, List.set_cons_succ, Nat.reduceAdd, Nat.zero_add] at hK ⊢
      obtain ⟨q, k, c, h1, hmi⟩ := e10
      simp only [h1] at hK ⊢
      clear hW
      go_simp
      refine hK.out _ _ (fun _ => ⟨Only.refl _ _, id⟩) (fun h => absurd h (by decide)) hG ⟨q, k, c, rfl, hmi⟩
    case s12 =>
      intro f W hG hW K hK
      try dsimp only at hG
      have e10 := hW 10 (by kernel_rfl) (by decide)
      try dsimp only at e10
      simp only [putF, Act.put, List.setIfInBounds_toArray, List.set_cons_zero, List.set_cons_succ, Nat.reduceAdd, Nat.zero_add] at hK ⊢
      obtain ⟨q, k, c, h1, hmi⟩ := e10
      simp only [h1] at hK ⊢
      clear hW
      go_simp
      refine hK.out _ _ (fun _ => ⟨Only.refl _ _, id⟩) (fun h => absurd h (by decide)) hG ?_
      first | with_reducible rfl | rfl
    case s13 =>
      intro f W hG hW K hK
      try dsimp only at hG
      have e0 := hW 0 (by kernel_rfl) (by decide)
      change f 0 = .pointer (some ⟨w.heap.size, 0, none⟩) at e0
      have e1 := hW 1 (by kernel_rfl) (by decide)
      change f 1 = .int .i64 a at e1
      have e2 := hW 2 (by kernel_rfl) (by decide)
      change f 2 = .pointer (some ⟨w.heap.size + 1, 1, none⟩) at e2
      have e3 := hW 3 (by kernel_rfl) (by decide)
      change f 3 = .int .i64 b' at e3
      have e4 := hW 4 (by kernel_rfl) (by decide)
      change f 4 = .pointer (some ⟨w.heap.size, 2, none⟩) at e4
      have e5 := hW 5 (by kernel_rfl) (by decide)
      change f 5 = .slice pa na ca at e5
      have e7 := hW 7 (by kernel_rfl) (by decide)
      change f 7 = .pointer (some ⟨w.heap.size + 1, 2, none⟩) at e7
      have e8 := hW 8 (by kernel_rfl) (by decide)
      change f 8 = .slice pb nb cb at e8
      have e9 := hW 9 (by kernel_rfl) (by decide)
      try dsimp only at e9
      have e10 := hW 10 (by kernel_rfl) (by decide)
      try dsimp only at e10
      have e11 := hW 11 (by kernel_rfl) (by decide)
      try dsimp only at e11
      have e12 := hW 12 (by kernel_rfl) (by decide)
      change f 12 = .int .i64 EE at e12
      simp only [putF, Act.put, List.setIfInBounds_toArray, List.set_cons_zero, List.set_cons_succ, Nat.reduceAdd, Nat.zero_add] at hK ⊢
      (try rw [e0])
      (try rw [e0] at hK)
      (try rw [e1])
      (try rw [e1] at hK)
      (try rw [e2])
      (try rw [e2] at hK)
      (try rw [e3])
      (try rw [e3] at hK)
      (try rw [e4])
      (try rw [e4] at hK)
      (try rw [e5])
      (try rw [e5] at hK)
      (try rw [e7])
      (try rw [e7] at hK)
      (try rw [e8])
      (try rw [e8] at hK)
      (try rw [e12])
      (try rw [e12] at hK)
      obtain ⟨hO, cs4, hc4, h4⟩ := hG
      obtain ⟨q, k, c, h1, hmi⟩ := e11
      simp only [h1] at hK ⊢
      have th := there_row10 h4 hc4
      have hcl := HC1.out (.slice q k c)
      have hco := HC2.out q k c
      have hrw := setCells_rowA (cs := CC (.slice q k c)) h4 (by rw [hc4, hcl])
      have ho := (Only.refl (w.heap.size + 1 + 1) W).setCells 0 (CC (.slice q k c))
      clear hW
      go_simp
      have hF := hmi.only HSZ.out ho
      refine hK.out undef _ (fun _ => ⟨ho, fun _ => ⟨q, k, c, hrw, hF⟩⟩) (fun h => absurd h (by decide)) ⟨hO.trans ho, _, by simpa using hcl, hrw⟩ ⟨q, k, c, hrw, hF⟩
    case s14 =>
      intro f W hG hW K hK
      try dsimp only at hG
      have e0 := hW 0 (by kernel_rfl) (by decide)
      change f 0 = .pointer (some ⟨w.heap.size, 0, none⟩) at e0
      have e1 := hW 1 (by kernel_rfl) (by decide)
      change f 1 = .int .i64 a at e1
      have e2 := hW 2 (by kernel_rfl) (by decide)
      change f 2 = .pointer (some ⟨w.heap.size + 1, 1, none⟩) at e2
      have e3 := hW 3 (by kernel_rfl) (by decide)
      change f 3 = .int .i64 b' at e3
      have e4 := hW 4 (by kernel_rfl) (by decide)
      change f 4 = .pointer (some ⟨w.heap.size, 2, none⟩) at e4
      have e5 := hW 5 (by kernel_rfl) (by decide)
      change f 5 = .slice pa na ca at e5
      have e7 := hW 7 (by kernel_rfl) (by decide)
      change f 7 = .pointer (some ⟨w.heap.size + 1, 2, none⟩) at e7
      have e8 := hW 8 (by kernel_rfl) (by decide)
      change f 8 = .slice pb nb cb at e8
      have e9 := hW 9 (by kernel_rfl) (by decide)
      try dsimp only at e9
      have e10 := hW 10 (by kernel_rfl) (by decide)
      try dsimp only at e10
      have e11 := hW 11 (by kernel_rfl) (by decide)
      try dsimp only at e11
      have e12 := hW 12 (by kernel_rfl) (by decide)
      change f 12 = .int .i64 EE at e12
      have e13 := hW 13 (by kernel_rfl) (by decide)
      try dsimp only at e13
      simp only [putF, Act.put, List.setIfInBounds_toArray, List.set_cons_zero, List.set_cons_succ, Nat.reduceAdd, Nat.zero_add] at hK ⊢
      (try rw [e0])
      (try rw [e0] at hK)
      (try rw [e1])
      (try rw [e1] at hK)
      (try rw [e2])
      (try rw [e2] at hK)
      (try rw [e3])
      (try rw [e3] at hK)
      (try rw [e4])
      (try rw [e4] at hK)
      (try rw [e5])
      (try rw [e5] at hK)
      (try rw [e7])
      (try rw [e7] at hK)
      (try rw [e8])
      (try rw [e8] at hK)
      (try rw [e12])
      (try rw [e12] at hK)
      clear hW
      go_simp
      refine hK.out _ _ (fun _ => ⟨Only.refl _ _, id⟩) (fun h => absurd h (by decide)) hG ?_
      first | exact trivial | with_reducible rfl | rfl
  case iD =>
    intro f W hG hR
    try dsimp only at hG
    have r0 := hR 0 (by decide) (by decide)
    change f 0 = .pointer (some ⟨w.heap.size, 0, none⟩) at r0
    have r1 := hR 1 (by decide) (by decide)
    change f 1 = .int .i64 a at r1
    have r2 := hR 2 (by decide) (by decide)
    change f 2 = .pointer (some ⟨w.heap.size + 1, 1, none⟩) at r2
    have r3 := hR 3 (by decide) (by decide)
    change f 3 = .int .i64 b' at r3
    have r4 := hR 4 (by decide) (by decide)
    change f 4 = .pointer (some ⟨w.heap.size, 2, none⟩) at r4
    have r5 := hR 5 (by decide) (by decide)
    change f 5 = .slice pa na ca at r5
    have r7 := hR 7 (by decide) (by decide)
    change f 7 = .pointer (some ⟨w.heap.size + 1, 2, none⟩) at r7
    have r8 := hR 8 (by decide) (by decide)
    change f 8 = .slice pb nb cb at r8
    have r9 := hR 9 (by decide) (by decide)
    try dsimp only at r9
    have r10 := hR 10 (by decide) (by decide)
    try dsimp only at r10
    have r11 := hR 11 (by decide) (by decide)
    try dsimp only at r11
    have r12 := hR 12 (by decide) (by decide)
    change f 12 = .int .i64 EE at r12
    have r13 := hR 13 (by decide) (by decide)
    try dsimp only at r13
    have r14 := hR 14 (by decide) (by decide)
    change f 14 = .int .i64 EE at r14
    clear hR
    simp only [putF, Act.put, List.setIfInBounds_toArray, List.set_cons_zero, List.set_cons_succ, Nat.reduceAdd, Nat.zero_add]
    (try rw [r0])
    (try rw [r1])
    (try rw [r2])
    (try rw [r3])
    (try rw [r4])
    (try rw [r5])
    (try rw [r7])
    (try rw [r8])
    (try rw [r12])
    (try rw [r14])
    obtain ⟨q, k, c, h1, hmi⟩ := r13
    have HQ := Lib.hid h1; have HMI := Lib.hid hmi; have HO := Lib.hid hG.1
    clear h1 hmi hG r9 r10 r11 r12 r14
    go_wp2_with fail
    refine bodyPost_ret (results_cellT2 rfl _ _ (w.heap.size + 1 + 1) rfl (loadRp HQ.out (by simpa using HC1.out _))) rfl ?_
    exact ⟨q, k, c, rfl, HMI.out.lower HB2.out.size, Only.below HB2.out (by omega) HB2.out.size HO.out⟩
end Go.Proofs.Ytajpggnmhkpbkaa
