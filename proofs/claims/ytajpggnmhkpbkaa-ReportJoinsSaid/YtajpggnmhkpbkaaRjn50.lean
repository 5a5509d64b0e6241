/- Contracts: the reference's Join of reports that may be and follow each other. Contract: the reference's Join of reports that may not be, or do not follow each other. Contracts of both Joins, and of both Splits, at once: what the report's own tells, and that the reference tells the same. -/
import Derived.Test.YtajpggnmhkpbkaaRjn49
import Derived.Test.YtajpggnmhkpbkaaRjn41
import Derived.Test.YtajpggnmhkpbkaaRjn47

section
set_option linter.unusedVariables false
set_option linter.unusedSimpArgs false
namespace Go.Proofs.Ytajpggnmhkpbkaa
open Go.RowKit
theorem rjoin_bad (a b : Int) (la : List Pst) (pa : Option Addr) (na ca : Nat) (m x0 x1 x2 x3 x4 x5 : Int) (a' b' : Int) (lb : List Pst) (pb : Option Addr) (nb cb : Nat) (m' y0 y1 y2 y3 y4 y5 : Int) (hba : Rep.MayP a b la m [x0, x1, x2, x3, x4, x5]) (hbb : Rep.MayP a' b' lb m' [y0, y1, y2, y3, y4, y5]) (hab : a' = b + 1) (hna : na ≤ 400000) (hnb : nb ≤ 400000) (hnf : ¬ Rep.FineP (la ++ lb)) (w : World) (hsa : PS w (.slice pa na ca) la) (hsb : PS w (.slice pb nb cb) lb) :
    Calls Try.prog 20 #[.agg #[.int .i64 a, .int .i64 b, .slice pa na ca, .int .i64 m, .int .i64 x0, .int .i64 x1, .int .i64 x2, .int .i64 x3, .int .i64 x4, .int .i64 x5], .agg #[.int .i64 a', .int .i64 b', .slice pb nb cb, .int .i64 m', .int .i64 y0, .int .i64 y1, .int .i64 y2, .int .i64 y3, .int .i64 y4, .int .i64 y5]] w fun e w' => e = .returned (.tuple #[.agg #[.int .i64 0, .int .i64 0, .slice none 0 0, .int .i64 0, .int .i64 0, .int .i64 0, .int .i64 0, .int .i64 0, .int .i64 0, .int .i64 0], .int .i64 2]) ∧ Below w.heap.size w w' := by
  refine (rjoin_go a b la pa na ca m x0 x1 x2 x3 x4 x5 a' b' lb pb nb cb m' y0 y1 y2 y3 y4 y5 hba hbb hab hna hnb (fun _ => ([.int .i64 0, .int .i64 0, .slice none 0 0, .int .i64 0, .int .i64 0, .int .i64 0, .int .i64 0, .int .i64 0, .int .i64 0, .int .i64 0] : List Value)) (fun _ => rfl) (fun _ _ _ => rfl) 2 [] (fun W p n c h => (rMakeR_bad a b' (la ++ lb) p n c (fun h => hnf h.2) W h).mono ?_) w hsa hsb).mono ?_
  · rintro e w' ⟨rfl, hb⟩
    exact ⟨none, 0, 0, rfl, .inl ⟨rfl, rfl⟩, hb⟩
  · rintro e w' ⟨q, k, c, rfl, _, hb⟩
    exact ⟨rfl, hb⟩
theorem rjoin_fit (a b : Int) (la : List Pst) (pa : Option Addr) (na ca : Nat) (m x0 x1 x2 x3 x4 x5 : Int) (a' b' : Int) (lb : List Pst) (pb : Option Addr) (nb cb : Nat) (m' y0 y1 y2 y3 y4 y5 : Int) (hba : Rep.MayP a b la m [x0, x1, x2, x3, x4, x5]) (hbb : Rep.MayP a' b' lb m' [y0, y1, y2, y3, y4, y5]) (hab : a' = b + 1) (hna : na ≤ 400000) (hnb : nb ≤ 400000) (hf : Rep.FineP (la ++ lb)) (s : List Pst) (hp : (la ++ lb).Perm s) (hs : Rep.Str s) (ev M z0 z1 z2 z3 z4 z5 : Int) (hsum : Post.sums s = ⟨ev, M, [z0, z1, z2, z3, z4, z5]⟩) (w : World) (hsa : PS w (.slice pa na ca) la) (hsb : PS w (.slice pb nb cb) lb) :
    Calls Try.prog 20 #[.agg #[.int .i64 a, .int .i64 b, .slice pa na ca, .int .i64 m, .int .i64 x0, .int .i64 x1, .int .i64 x2, .int .i64 x3, .int .i64 x4, .int .i64 x5], .agg #[.int .i64 a', .int .i64 b', .slice pb nb cb, .int .i64 m', .int .i64 y0, .int .i64 y1, .int .i64 y2, .int .i64 y3, .int .i64 y4, .int .i64 y5]] w fun e w' => ∃ (q : Option Addr) (k c : Nat), e = .returned (.tuple #[.agg (Rep.cellsR ev a b' M [z0, z1, z2, z3, z4, z5] (.slice q k c)).toArray, .int .i64 ev]) ∧ Mine Pst.cells 10 w' w.heap.size (.slice q k c) s ∧ Below w.heap.size w w' := by
  have hd1 : 0 ≤ a ∧ a ≤ b ∧ b ≤ 1000000 := by have := hba.1; unfold Rep.days at this; simp at this; omega
  have hd2 : 0 ≤ a' ∧ a' ≤ b' ∧ b' ≤ 1000000 := by have := hbb.1; unfold Rep.days at this; simp at this; omega
  have hd : Rep.days a b' = true := by unfold Rep.days; simp; omega
  have hwi : ∀ z ∈ la ++ lb, Rep.within a b' z = true := by
    intro z hz
    rcases List.mem_append.1 hz with h | h
    · have := hba.2.2.1 z h
      unfold Rep.within at this ⊢
      simp at this ⊢
      omega
    · have := hbb.2.2.1 z h
      unfold Rep.within at this ⊢
      simp at this ⊢
      omega
  have hm : Srt.Mix keyP ((la ++ lb).filter (Rep.within a b')) s := by rw [Rep.filter_all hwi]; exact Rep.mix_of_perm hp hs
  have hla := (ps_len hsa).1
  have hlb := (ps_len hsb).1
  refine rjoin_go a b la pa na ca m x0 x1 x2 x3 x4 x5 a' b' lb pb nb cb m' y0 y1 y2 y3 y4 y5 hba hbb hab hna hnb (Rep.cellsR ev a b' M [z0, z1, z2, z3, z4, z5]) (fun v => Rep.cellsR_length ev a b' M z0 z1 z2 z3 z4 z5 v) (fun p n c => Rep.cellsR_one ev a b' M z0 z1 z2 z3 z4 z5 p n c) ev s (fun W p n c h => (rMakeR_fit a b' (la ++ lb) p n c (by have := (ps_len h).1; rw [List.length_append] at this; omega) hd hf s hm hs.up ev M z0 z1 z2 z3 z4 z5 hsum W h).mono ?_) w hsa hsb
  rintro e w' ⟨v, hmi, hb, h⟩
  obtain ⟨q, k, c, rfl⟩ := hmi.one
  rcases h with ⟨he, rfl⟩ | ⟨he, rfl⟩
  · subst he
    exact ⟨q, k, c, rfl, hmi, hb⟩
  · refine ⟨q, k, c, ?_, hmi, hb⟩
    unfold Rep.cellsR
    rw [if_neg he]
end Go.Proofs.Ytajpggnmhkpbkaa
end

section
set_option linter.unusedVariables false
set_option linter.unusedSimpArgs false
namespace Go.Proofs.Ytajpggnmhkpbkaa
open Go.RowKit
attribute [local go_sem ↓] rp_execLoad rp_execStore

attribute [local go_sem] rp_load rp_store loL_drew okL_drew there_sc

set_option maxRecDepth 8000 in
set_option maxHeartbeats 4000000 in
theorem rjoin_stop (a b : Int) (la : List Pst) (pa : Option Addr) (na ca : Nat) (m x0 x1 x2 x3 x4 x5 : Int) (a' b' : Int) (lb : List Pst) (pb : Option Addr) (nb cb : Nat) (m' y0 y1 y2 y3 y4 y5 : Int) (ba bb : Bool) (hba : ba = true ↔ Rep.MayP a b la m [x0, x1, x2, x3, x4, x5]) (hbb : bb = true ↔ Rep.MayP a' b' lb m' [y0, y1, y2, y3, y4, y5]) (hne : ¬ (ba = true ∧ bb = true ∧ a' = b + 1)) (hna : na ≤ 400000) (hnb : nb ≤ 400000) (w : World) (hsa : PS w (.slice pa na ca) la) (hsb : PS w (.slice pb nb cb) lb) :
    Calls Try.prog 20 #[.agg #[.int .i64 a, .int .i64 b, .slice pa na ca, .int .i64 m, .int .i64 x0, .int .i64 x1, .int .i64 x2, .int .i64 x3, .int .i64 x4, .int .i64 x5], .agg #[.int .i64 a', .int .i64 b', .slice pb nb cb, .int .i64 m', .int .i64 y0, .int .i64 y1, .int .i64 y2, .int .i64 y3, .int .i64 y4, .int .i64 y5]] w fun e w' => e = .returned (.tuple #[.agg #[.int .i64 0, .int .i64 0, .slice none 0 0, .int .i64 0, .int .i64 0, .int .i64 0, .int .i64 0, .int .i64 0, .int .i64 0, .int .i64 0], .int .i64 2]) ∧ Below w.heap.size w w' := by
  have HMA := Lib.hid (fun W h => rMay17_any a b la pa na ca (by omega) m x0 x1 x2 x3 x4 x5 ba hba W h)
  have HMB := Lib.hid (fun W h => rMay17_any a' b' lb pb nb cb (by omega) m' y0 y1 y2 y3 y4 y5 bb hbb W h)
  have HSA := Lib.hid hsa; have HSB := Lib.hid hsb
  have HDW : Hid (ba = true → wrap64 (b + 1) = b + 1) := Lib.hid (fun h => by have := (hba.1 h).1; unfold Rep.days at this; simp at this; unfold wrap64; omega)
  have HNE := Lib.hid hne
  clear hsa hsb hba hbb hne
  have hb1 := (((Below.refl w.heap.size w).alloc (Nat.le_refl _) (.cells #[.int .i64 a, .int .i64 b, .slice pa na ca, .int .i64 m, .int .i64 x0, .int .i64 x1, .int .i64 x2, .int .i64 x3, .int .i64 x4, .int .i64 x5] 43 (0, 0))).alloc (by simp) (.cells #[.int .i64 a', .int .i64 b', .slice pb nb cb, .int .i64 m', .int .i64 y0, .int .i64 y1, .int .i64 y2, .int .i64 y3, .int .i64 y4, .int .i64 y5] 43 (0, 0))).alloc (by simp; omega) (.cells #[.int .i64 0, .int .i64 0, .slice none 0 0, .int .i64 0, .int .i64 0, .int .i64 0, .int .i64 0, .int .i64 0, .int .i64 0, .int .i64 0] 43 (0, 0))
  have hr0 := row_alloc (row_alloc (new_row w (.cells #[.int .i64 a, .int .i64 b, .slice pa na ca, .int .i64 m, .int .i64 x0, .int .i64 x1, .int .i64 x2, .int .i64 x3, .int .i64 x4, .int .i64 x5] 43 (0, 0)) _ rfl) (.cells #[.int .i64 a', .int .i64 b', .slice pb nb cb, .int .i64 m', .int .i64 y0, .int .i64 y1, .int .i64 y2, .int .i64 y3, .int .i64 y4, .int .i64 y5] 43 (0, 0))) (.cells #[.int .i64 0, .int .i64 0, .slice none 0 0, .int .i64 0, .int .i64 0, .int .i64 0, .int .i64 0, .int .i64 0, .int .i64 0, .int .i64 0] 43 (0, 0))
  have hr1 := row_alloc (new_row (w.alloc (.cells #[.int .i64 a, .int .i64 b, .slice pa na ca, .int .i64 m, .int .i64 x0, .int .i64 x1, .int .i64 x2, .int .i64 x3, .int .i64 x4, .int .i64 x5] 43 (0, 0))) (.cells #[.int .i64 a', .int .i64 b', .slice pb nb cb, .int .i64 m', .int .i64 y0, .int .i64 y1, .int .i64 y2, .int .i64 y3, .int .i64 y4, .int .i64 y5] 43 (0, 0)) (w.heap.size + 1) (by simp)) (.cells #[.int .i64 0, .int .i64 0, .slice none 0 0, .int .i64 0, .int .i64 0, .int .i64 0, .int .i64 0, .int .i64 0, .int .i64 0, .int .i64 0] 43 (0, 0))
  have hr4 := new_row ((w.alloc (.cells #[.int .i64 a, .int .i64 b, .slice pa na ca, .int .i64 m, .int .i64 x0, .int .i64 x1, .int .i64 x2, .int .i64 x3, .int .i64 x4, .int .i64 x5] 43 (0, 0))).alloc (.cells #[.int .i64 a', .int .i64 b', .slice pb nb cb, .int .i64 m', .int .i64 y0, .int .i64 y1, .int .i64 y2, .int .i64 y3, .int .i64 y4, .int .i64 y5] 43 (0, 0))) (.cells #[.int .i64 0, .int .i64 0, .slice none 0 0, .int .i64 0, .int .i64 0, .int .i64 0, .int .i64 0, .int .i64 0, .int .i64 0, .int .i64 0] 43 (0, 0)) (w.heap.size + 1 + 1) (by simp)
  obtain ⟨f1, f2⟩ := row_loJ (cs := [.int .i64 a, .int .i64 b, .slice pa na ca, .int .i64 m, .int .i64 x0, .int .i64 x1, .int .i64 x2, .int .i64 x3, .int .i64 x4, .int .i64 x5]) hr0 rfl
  go_enter Try.func20, Try.ntmps20
  go_wp2_with fail
  generalize ((w.alloc (.cells #[.int .i64 a, .int .i64 b, .slice pa na ca, .int .i64 m, .int .i64 x0, .int .i64 x1, .int .i64 x2, .int .i64 x3, .int .i64 x4, .int .i64 x5] 43 (0, 0))).alloc (.cells #[.int .i64 a', .int .i64 b', .slice pb nb cb, .int .i64 m', .int .i64 y0, .int .i64 y1, .int .i64 y2, .int .i64 y3, .int .i64 y4, .int .i64 y5] 43 (0, 0))).alloc (.cells #[.int .i64 0, .int .i64 0, .slice none 0 0, .int .i64 0, .int .i64 0, .int .i64 0, .int .i64 0, .int .i64 0, .int .i64 0, .int .i64 0] 43 (0, 0)) = W0 at *
  refine (HMA.out _ (HSA.out.below hb1)).mono ?_
  rintro e w1 ⟨rfl, hbq⟩
  have HB1 := Lib.hid (hb1.trans (hbq.mono hb1.size))
  have HR0 := Lib.hid ((hbq.block w.heap.size (block_lt hr0)).trans hr0)
  have HR1 := Lib.hid ((hbq.block (w.heap.size + 1) (block_lt hr1)).trans hr1)
  have HR4 := Lib.hid ((hbq.block (w.heap.size + 1 + 1) (block_lt hr4)).trans hr4)
  have HSA := Lib.hid ((HSA.out.below hb1).below hbq); have HSB := Lib.hid ((HSB.out.below hb1).below hbq)
  clear hb1 hbq hr0 hr1 hr4 f1 f2 HMA
  have h1n : (([.int .i64 0, .int .i64 0, .slice none 0 0, .int .i64 0, .int .i64 0, .int .i64 0, .int .i64 0, .int .i64 0, .int .i64 0, .int .i64 0] : List Value)).length = 10 := rfl
  have h1c : (([.int .i64 0, .int .i64 0, .slice none 0 0, .int .i64 0, .int .i64 0, .int .i64 0, .int .i64 0, .int .i64 0, .int .i64 0, .int .i64 0] : List Value)).all (·.oneCell') = true := rfl
  cases ba
  · clear HMB HSA HSB
    have th4 := there_row10 HR4.out rfl
    go_wp2
    have hq := setCells_rowA (cs := ([.int .i64 0, .int .i64 0, .slice none 0 0, .int .i64 0, .int .i64 0, .int .i64 0, .int .i64 0, .int .i64 0, .int .i64 0, .int .i64 0] : List Value)) HR4.out rfl
    refine bodyPost_ret (results_cellT2 rfl _ _ (w.heap.size + 1 + 1) rfl (loadRp hq rfl)) rfl ?_
    exact ⟨rfl, Only.below HB1.out (by omega) HB1.out.size ((Only.refl _ _).setCells 0 _)⟩
  · obtain ⟨f1, f2⟩ := row_loJ (cs := [.int .i64 a', .int .i64 b', .slice pb nb cb, .int .i64 m', .int .i64 y0, .int .i64 y1, .int .i64 y2, .int .i64 y3, .int .i64 y4, .int .i64 y5]) HR1.out rfl
    go_wp2_with fail
    refine (HMB.out _ HSB.out).mono ?_
    rintro e w2 ⟨rfl, hbq⟩
    have HB2 := Lib.hid (HB1.out.trans (hbq.mono HB1.out.size))
    have HR0 := Lib.hid ((hbq.block w.heap.size (block_lt HR0.out)).trans HR0.out)
    have HR1 := Lib.hid ((hbq.block (w.heap.size + 1) (block_lt HR1.out)).trans HR1.out)
    have HR4 := Lib.hid ((hbq.block (w.heap.size + 1 + 1) (block_lt HR4.out)).trans HR4.out)
    have hq0 := 0
    clear hbq f1 f2 HMB
    have kc0 := fun j => cell_of_row w2 w.heap.size j _ _ _ HR0.out
    have kc1 := fun j => cell_of_row w2 (w.heap.size + 1) j _ _ _ HR1.out
    cases bb
    · skip
      have th4 := there_row10 HR4.out rfl
      go_wp2
      have hq := setCells_rowA (cs := ([.int .i64 0, .int .i64 0, .slice none 0 0, .int .i64 0, .int .i64 0, .int .i64 0, .int .i64 0, .int .i64 0, .int .i64 0, .int .i64 0] : List Value)) HR4.out rfl
      refine bodyPost_ret (results_cellT2 rfl _ _ (w.heap.size + 1 + 1) rfl (loadRp hq rfl)) rfl ?_
      exact ⟨rfl, Only.below HB2.out (by omega) HB2.out.size ((Only.refl _ _).setCells 0 _)⟩
    · have hnab : ¬ a' = wrap64 (b + 1) := by rw [HDW.out (by trivial)]; exact fun h => HNE.out ⟨by trivial, by trivial, h⟩
      have th4 := there_row10 HR4.out rfl
      go_wp2
      have hq := setCells_rowA (cs := ([.int .i64 0, .int .i64 0, .slice none 0 0, .int .i64 0, .int .i64 0, .int .i64 0, .int .i64 0, .int .i64 0, .int .i64 0, .int .i64 0] : List Value)) HR4.out rfl
      refine bodyPost_ret (results_cellT2 rfl _ _ (w.heap.size + 1 + 1) rfl (loadRp hq rfl)) rfl ?_
      exact ⟨rfl, Only.below HB2.out (by omega) HB2.out.size ((Only.refl _ _).setCells 0 _)⟩
end Go.Proofs.Ytajpggnmhkpbkaa
end

section
set_option linter.unusedVariables false
set_option linter.unusedSimpArgs false
namespace Go.Proofs.Ytajpggnmhkpbkaa
open Go.RowKit
/-- a report and an error, as a value -/
def Rep.JV (f t M z0 z1 z2 z3 z4 z5 E : Int) (q : Option Addr) (k c : Nat) : Value := .tuple #[.agg #[.int .i64 f, .int .i64 t, .slice q k c, .int .i64 M, .int .i64 z0, .int .i64 z1, .int .i64 z2, .int .i64 z3, .int .i64 z4, .int .i64 z5], .int .i64 E]
theorem join_two (a b : Int) (la : List Pst) (pa : Option Addr) (na ca : Nat) (m x0 x1 x2 x3 x4 x5 : Int) (a' b' : Int) (lb : List Pst) (pb : Option Addr) (nb cb : Nat) (m' y0 y1 y2 y3 y4 y5 : Int) (ba bb : Bool) (hba : ba = true ↔ Rep.MayP a b la m [x0, x1, x2, x3, x4, x5]) (hbb : bb = true ↔ Rep.MayP a' b' lb m' [y0, y1, y2, y3, y4, y5]) (hna : na ≤ 400000) (hnb : nb ≤ 400000) (w : World) (hsa : PS w (.slice pa na ca) la) (hsb : PS w (.slice pb nb cb) lb) :
    Calls Try.prog 17 #[.agg #[.int .i64 a, .int .i64 b, .slice pa na ca, .int .i64 m, .int .i64 x0, .int .i64 x1, .int .i64 x2, .int .i64 x3, .int .i64 x4, .int .i64 x5], .agg #[.int .i64 a', .int .i64 b', .slice pb nb cb, .int .i64 m', .int .i64 y0, .int .i64 y1, .int .i64 y2, .int .i64 y3, .int .i64 y4, .int .i64 y5]] w fun e w1 => ∃ (f t M z0 z1 z2 z3 z4 z5 E : Int) (s : List Pst) (q : Option Addr) (k c : Nat), e = .returned (Rep.JV f t M z0 z1 z2 z3 z4 z5 E q k c) ∧ LS Pst.cells 10 w1 (.slice q k c) s ∧ Below w.heap.size w w1 ∧
      (∀ W, PS W (.slice pa na ca) la → PS W (.slice pb nb cb) lb → Calls Try.prog 20 #[.agg #[.int .i64 a, .int .i64 b, .slice pa na ca, .int .i64 m, .int .i64 x0, .int .i64 x1, .int .i64 x2, .int .i64 x3, .int .i64 x4, .int .i64 x5], .agg #[.int .i64 a', .int .i64 b', .slice pb nb cb, .int .i64 m', .int .i64 y0, .int .i64 y1, .int .i64 y2, .int .i64 y3, .int .i64 y4, .int .i64 y5]] W fun e w2 => ∃ (q : Option Addr) (k c : Nat), e = .returned (Rep.JV f t M z0 z1 z2 z3 z4 z5 E q k c) ∧ LS Pst.cells 10 w2 (.slice q k c) s ∧ Below W.heap.size W w2) := by
  refine join_any a b la pa na ca m x0 x1 x2 x3 x4 x5 a' b' lb pb nb cb m' y0 y1 y2 y3 y4 y5 ba bb hba hbb hna hnb w hsa hsb _ ?_ ?_ ?_
  · intro w1 hng hb
    refine ⟨0, 0, 0, 0, 0, 0, 0, 0, 0, 2, [], none, 0, 0, rfl, LS.nil _, hb, fun W h1 h2 => ?_⟩
    by_cases hc : ba = true ∧ bb = true ∧ a' = b + 1
    · refine (rjoin_bad a b la pa na ca m x0 x1 x2 x3 x4 x5 a' b' lb pb nb cb m' y0 y1 y2 y3 y4 y5 (hba.1 hc.1) (hbb.1 hc.2.1) hc.2.2 hna hnb (fun h => hng ⟨hc.1, hc.2.1, hc.2.2, h⟩) W h1 h2).mono ?_
      rintro e w2 ⟨rfl, hb⟩
      exact ⟨none, 0, 0, rfl, LS.nil _, hb⟩
    · refine (rjoin_stop a b la pa na ca m x0 x1 x2 x3 x4 x5 a' b' lb pb nb cb m' y0 y1 y2 y3 y4 y5 ba bb hba hbb hc hna hnb W h1 h2).mono ?_
      rintro e w2 ⟨rfl, hb⟩
      exact ⟨none, 0, 0, rfl, LS.nil _, hb⟩
  · intro w1 v s M z0 z1 z2 z3 z4 z5 hg hsum hp hst hm hb
    obtain ⟨q, k, c, rfl⟩ := hm.one
    refine ⟨a, b', M, z0, z1, z2, z3, z4, z5, 0, s, q, k, c, rfl, hm.ls Pst.cells_length (by decide), hb, fun W h1 h2 => ?_⟩
    refine (rjoin_fit a b la pa na ca m x0 x1 x2 x3 x4 x5 a' b' lb pb nb cb m' y0 y1 y2 y3 y4 y5 (hba.1 hg.1) (hbb.1 hg.2.1) hg.2.2.1 hna hnb hg.2.2.2 s hp hst 0 M z0 z1 z2 z3 z4 z5 hsum W h1 h2).mono ?_
    rintro e w2 ⟨q', k', c', rfl, hm', hb'⟩
    exact ⟨q', k', c', rfl, hm'.ls Pst.cells_length (by decide), hb'⟩
  · intro w1 s ev M z0 z1 z2 z3 z4 z5 hg hsum hp hst hev hb
    refine ⟨0, 0, 0, 0, 0, 0, 0, 0, 0, ev, [], none, 0, 0, rfl, LS.nil _, hb, fun W h1 h2 => ?_⟩
    refine (rjoin_fit a b la pa na ca m x0 x1 x2 x3 x4 x5 a' b' lb pb nb cb m' y0 y1 y2 y3 y4 y5 (hba.1 hg.1) (hbb.1 hg.2.1) hg.2.2.1 hna hnb hg.2.2.2 s hp hst ev M z0 z1 z2 z3 z4 z5 hsum W h1 h2).mono ?_
    rintro e w2 ⟨q', k', c', rfl, hm', hb'⟩
    refine ⟨none, 0, 0, ?_, LS.nil _, hb'⟩
    unfold Rep.cellsR
    rw [if_neg hev]
    rfl
/-- two reports and an error, as a value -/
def Rep.SV (f t M z0 z1 z2 z3 z4 z5 f' t' M' u0 u1 u2 u3 u4 u5 E : Int) (q : Option Addr) (k c : Nat) (q' : Option Addr) (k' c' : Nat) : Value := .tuple #[.agg #[.int .i64 f, .int .i64 t, .slice q k c, .int .i64 M, .int .i64 z0, .int .i64 z1, .int .i64 z2, .int .i64 z3, .int .i64 z4, .int .i64 z5], .agg #[.int .i64 f', .int .i64 t', .slice q' k' c', .int .i64 M', .int .i64 u0, .int .i64 u1, .int .i64 u2, .int .i64 u3, .int .i64 u4, .int .i64 u5], .int .i64 E]
/-- what both splits tell -/
def Rep.SplitS (s1 s2 : List Pst) (V : Option Addr → Nat → Nat → Option Addr → Nat → Nat → Value) (w : World) (e : Ending) (w1 : World) : Prop := ∃ (q : Option Addr) (k c : Nat) (q' : Option Addr) (k' c' : Nat), e = .returned (V q k c q' k' c') ∧ LS Pst.cells 10 w1 (.slice q k c) s1 ∧ LS Pst.cells 10 w1 (.slice q' k' c') s2 ∧ Below w.heap.size w w1
theorem Rep.splitS_of (a b : Int) (l : List Pst) (ba : Bool) (day er1 M1 z0 z1 z2 z3 z4 z5 er2 M2 u0 u1 u2 u3 u4 u5 : Int) :
    ∃ (f t M g0 g1 g2 g3 g4 g5 f' t' M' h0 h1 h2 h3 h4 h5 E : Int) (s1 s2 : List Pst), ∀ (w : World) (C : (Ending → World → Prop) → Prop), Rep.SplitR a b l ba day er1 M1 [z0, z1, z2, z3, z4, z5] er2 M2 [u0, u1, u2, u3, u4, u5] w C → C (Rep.SplitS s1 s2 (Rep.SV f t M g0 g1 g2 g3 g4 g5 f' t' M' h0 h1 h2 h3 h4 h5 E) w) := by
  by_cases hc : ba = true ∧ a ≤ day ∧ day < b
  · by_cases he : er1 = 0 ∧ er2 = 0
    · refine ⟨a, day, M1, z0, z1, z2, z3, z4, z5, day + 1, b, M2, u0, u1, u2, u3, u4, u5, 0, l.filter (Rep.upTo day), l.filter (Rep.behind day), fun w C h => h _ ?_ ?_ ?_⟩
      · intro w1 h; exact absurd hc h
      · intro w1 _ h; exact absurd he h
      · intro w1 v1 v2 _ h1 h2 l1 l2 hb
        obtain ⟨p1, c1, rfl⟩ := l1.shape
        obtain ⟨p2, c2, rfl⟩ := l2.shape
        refine ⟨p1, _, c1, p2, _, c2, ?_, l1, l2, hb⟩
        rw [h1, h2]
        rfl
    · refine ⟨0, 0, 0, 0, 0, 0, 0, 0, 0, 0, 0, 0, 0, 0, 0, 0, 0, 0, 14, [], [], fun w C h => h _ ?_ ?_ ?_⟩
      · intro w1 h; exact absurd hc h
      · intro w1 _ _ hb; exact ⟨none, 0, 0, none, 0, 0, rfl, LS.nil _, LS.nil _, hb⟩
      · intro w1 v1 v2 _ h1 h2; exact absurd ⟨h1, h2⟩ he
  · refine ⟨0, 0, 0, 0, 0, 0, 0, 0, 0, 0, 0, 0, 0, 0, 0, 0, 0, 0, 2, [], [], fun w C h => h _ ?_ ?_ ?_⟩
    · intro w1 _ hb; exact ⟨none, 0, 0, none, 0, 0, rfl, LS.nil _, LS.nil _, hb⟩
    · intro w1 h; exact absurd h hc
    · intro w1 v1 v2 h; exact absurd h hc
theorem split_two (a b : Int) (l : List Pst) (p : Option Addr) (n cap : Nat) (m x0 x1 x2 x3 x4 x5 day : Int) (ba : Bool) (hba : ba = true ↔ Rep.MayP a b l m [x0, x1, x2, x3, x4, x5]) (hnb : n ≤ 1000000) :
    ∃ (f t M g0 g1 g2 g3 g4 g5 f' t' M' h0 h1 h2 h3 h4 h5 E : Int) (s1 s2 : List Pst),
      (∀ W, PS W (.slice p n cap) l → Calls Try.prog 18 #[.agg #[.int .i64 a, .int .i64 b, .slice p n cap, .int .i64 m, .int .i64 x0, .int .i64 x1, .int .i64 x2, .int .i64 x3, .int .i64 x4, .int .i64 x5], .int .i64 day] W (Rep.SplitS s1 s2 (Rep.SV f t M g0 g1 g2 g3 g4 g5 f' t' M' h0 h1 h2 h3 h4 h5 E) W)) ∧
      (∀ W, PS W (.slice p n cap) l → Calls Try.prog 21 #[.agg #[.int .i64 a, .int .i64 b, .slice p n cap, .int .i64 m, .int .i64 x0, .int .i64 x1, .int .i64 x2, .int .i64 x3, .int .i64 x4, .int .i64 x5], .int .i64 day] W (Rep.SplitS s1 s2 (Rep.SV f t M g0 g1 g2 g3 g4 g5 f' t' M' h0 h1 h2 h3 h4 h5 E) W)) := by
  have six : ∀ s : List Pst, ∃ ev M x0 x1 x2 x3 x4 x5 : Int, Post.sums s = ⟨ev, M, [x0, x1, x2, x3, x4, x5]⟩ := by
    intro s
    obtain ⟨x0, x1, x2, x3, x4, x5, hx⟩ := Post.six_of (Post.sums_fine s).1
    exact ⟨(Post.sums s).e, (Post.sums s).m, x0, x1, x2, x3, x4, x5, by rw [← hx]⟩
  obtain ⟨er1, M1, z0, z1, z2, z3, z4, z5, hs1⟩ := six (l.filter (Rep.upTo day))
  obtain ⟨er2, M2, u0, u1, u2, u3, u4, u5, hs2⟩ := six (l.filter (Rep.behind day))
  obtain ⟨f, t, M, g0, g1, g2, g3, g4, g5, f', t', M', h0, h1, h2, h3, h4, h5, E, s1, s2, h⟩ := Rep.splitS_of a b l ba day er1 M1 z0 z1 z2 z3 z4 z5 er2 M2 u0 u1 u2 u3 u4 u5
  exact ⟨f, t, M, g0, g1, g2, g3, g4, g5, f', t', M', h0, h1, h2, h3, h4, h5, E, s1, s2,
    fun W hs => h W _ (split_any a b l p n cap m x0 x1 x2 x3 x4 x5 day ba hba hnb er1 M1 z0 z1 z2 z3 z4 z5 er2 M2 u0 u1 u2 u3 u4 u5 hs1 hs2 W hs),
    fun W hs => h W _ (rsplit_any a b l p n cap m x0 x1 x2 x3 x4 x5 day ba hba hnb er1 M1 z0 z1 z2 z3 z4 z5 er2 M2 u0 u1 u2 u3 u4 u5 hs1 hs2 W hs)⟩
end Go.Proofs.Ytajpggnmhkpbkaa
end
